/-
  THE WALK of the law FnPrefixWithin.
-/
import Derived.Test.YtcodmhndigkplaaPreP
import Derived.Test.YtcodmhndigkplaaPs
import Derived.Test.YtcodmhndigkplaaPwS
import Derived.Test.YtcodmhndigkplaaDrWithin
import Derived.Test.YtcodmhndigkplaaIHave
namespace Go.Proofs.Ytcodmhndigkplaa
open Go.ChangeShapes Go.WideShapes Go.ChangeAt Go.RowKit Go.Sort Pf

set_option maxRecDepth 100000 in
set_option maxHeartbeats 4000000 in
theorem walkFnPrefixWithin (A : Option Addr) (n c : Nat) (zs : List Int) (w : World) (h : Rb w A n c zs) :
    Calls Try.prog 5 #[.slice A n c] w fun e w' => e = .returned (.bool true) ∧ Below w.heap.size w w' := by
  have hmax : n ≤ maxLen := Nat.le_trans h.2.1 h.2.2.1
  unfold maxLen at hmax
  have CD := Lib.hid (drawPrefixWithin_any A n c zs w h)
  clear h
  by_cases hn : n ≤ 1048576
  · have hn1 : (n : Int) ≤ 1048576 := by omega
    clear hn
    go_enter Try.func5, Try.ntmps5
    go_wp2_with fail
    refine (CD.out).mono ?_
    rintro e w1 ⟨b, l, b', l', rfl, hb1⟩
    have H1 := Lib.hid hb1
    have hz1 : w.heap.size ≤ w1.heap.size := hb1.size
    have P1 := Lib.hid ((Two.new w1 b l 24).alloc (.cells #[.int .i64 b', .int .i64 l'] 24))
    have Q1 := Two.new (w1.alloc (.cells #[.int .i64 b, .int .i64 l] 24)) b' l' 24
    rw [show (w1.alloc (.cells #[.int .i64 b, .int .i64 l] 24)).heap.size = w1.heap.size + 1 from by simp] at Q1
    have Q1 := Lib.hid Q1
    clear hb1 CD
    have CI := Lib.hid (fun W => iPrefixWithin_any b l b' l' W)
    have CS := Lib.hid (fun W => sPrefixWithin_any b l b' l' W)
    cases hv : pvB b l with
    | false =>
      have hok : pwithin b l b' l' = false := by simp [pwithin, hv]
      rw [hok] at CI CS
      have HV := Lib.hid hv
      clear hv hok
      go_wp2_with fail
      refine (CI.out _).mono ?_
      rintro e w2 ⟨rfl, hb2⟩
      have P2 := Lib.hid (P1.out.below hb2)
      have Q2 := Lib.hid (Q1.out.below hb2)
      have H2 := Lib.hid (chain (chain H1.out (below_two w1 _ _) hz1) hb2 (by simp; omega))
      obtain ⟨c0, c1, -, -⟩ := P2.out
      obtain ⟨d0, d1, -, -⟩ := Q2.out
      clear hb2 H1 P1 Q1 CI
      go_wp2_with fail
      refine (CS.out _).mono ?_
      rintro e w3 ⟨rfl, hb3⟩
      have P3 := Lib.hid (P2.out.below hb3)
      have Q3 := Lib.hid (Q2.out.below hb3)
      have H3 := Lib.hid (chain H2.out hb3 H2.out.size)
      clear c0 c1 d0 d1 hb3 H2 P2 Q2 CS
      obtain ⟨c0, c1, -, -⟩ := P3.out
      obtain ⟨d0, d1, -, -⟩ := Q3.out
      cases hv' : pvB b' l' with
      | false =>
        have HV' := Lib.hid hv'
        clear hv'
        go_wp2_with fail
        refine (iPrefixSpan_no b l _ HV.out).mono ?_
        rintro e w4 ⟨rfl, hb4⟩
        have P4 := Lib.hid ((P3.out.below hb4).alloc (.cells #[.int .i64 0, .int .i64 0] 33))
        have Q4 := Lib.hid ((Q3.out.below hb4).alloc (.cells #[.int .i64 0, .int .i64 0] 33))
        have X4 := Lib.hid (Two.new w4 (0) (0) 33)
        have H4 := Lib.hid (chain (chain H3.out hb4 H3.out.size) (below_one w4 (.cells #[.int .i64 0, .int .i64 0] 33)) (by have := H3.out.size; have := hb4.size; omega))
        clear c0 c1 d0 d1 hb4 H3 P3 Q3
        obtain ⟨c0, c1, -, -⟩ := P4.out
        obtain ⟨d0, d1, -, -⟩ := Q4.out
        obtain ⟨x0, x1, -, -⟩ := X4.out
        go_wp2_with fail
        refine (iPrefixSpan_no b' l' _ HV'.out).mono ?_
        rintro e w5 ⟨rfl, hb5⟩
        have P5 := Lib.hid ((P4.out.below hb5).alloc (.cells #[.int .i64 0, .int .i64 0] 33))
        have Q5 := Lib.hid ((Q4.out.below hb5).alloc (.cells #[.int .i64 0, .int .i64 0] 33))
        have X5 := Lib.hid ((X4.out.below hb5).alloc (.cells #[.int .i64 0, .int .i64 0] 33))
        have Y5 := Lib.hid (Two.new w5 (0) (0) 33)
        have H5 := Lib.hid (chain (chain H4.out hb5 H4.out.size) (below_one w5 (.cells #[.int .i64 0, .int .i64 0] 33)) (by have := H4.out.size; have := hb5.size; omega))
        clear c0 c1 d0 d1 x0 x1 hb5 H4 P4 Q4 X4
        obtain ⟨c0, c1, -, -⟩ := P5.out
        obtain ⟨d0, d1, -, -⟩ := Q5.out
        obtain ⟨x0, x1, -, -⟩ := X5.out
        obtain ⟨y0, y1, -, -⟩ := Y5.out
        go_wp2_with fail
        refine (alive_any _).mono ?_
        rintro e w6 ⟨rfl, hb6⟩
        have H6 := chain H5.out hb6 H5.out.size
        clear hb6 c0 c1 d0 d1 x0 x1 y0 y1
        go_wp2
        go_ret
        exact ⟨rfl, H6⟩
      | true =>
        have HV' := Lib.hid hv'
        clear hv'
        go_wp2_with fail
        refine (iPrefixSpan_no b l _ HV.out).mono ?_
        rintro e w4 ⟨rfl, hb4⟩
        have P4 := Lib.hid ((P3.out.below hb4).alloc (.cells #[.int .i64 0, .int .i64 0] 33))
        have Q4 := Lib.hid ((Q3.out.below hb4).alloc (.cells #[.int .i64 0, .int .i64 0] 33))
        have X4 := Lib.hid (Two.new w4 (0) (0) 33)
        have H4 := Lib.hid (chain (chain H3.out hb4 H3.out.size) (below_one w4 (.cells #[.int .i64 0, .int .i64 0] 33)) (by have := H3.out.size; have := hb4.size; omega))
        clear c0 c1 d0 d1 hb4 H3 P3 Q3
        obtain ⟨c0, c1, -, -⟩ := P4.out
        obtain ⟨d0, d1, -, -⟩ := Q4.out
        obtain ⟨x0, x1, -, -⟩ := X4.out
        go_wp2_with fail
        refine (iPrefixSpan_yes b' l' _ HV'.out).mono ?_
        rintro e w5 ⟨rfl, hb5⟩
        have P5 := Lib.hid ((P4.out.below hb5).alloc (.cells #[.int .i64 (b'), .int .i64 (b' + pw l' - 1)] 33))
        have Q5 := Lib.hid ((Q4.out.below hb5).alloc (.cells #[.int .i64 (b'), .int .i64 (b' + pw l' - 1)] 33))
        have X5 := Lib.hid ((X4.out.below hb5).alloc (.cells #[.int .i64 (b'), .int .i64 (b' + pw l' - 1)] 33))
        have Y5 := Lib.hid (Two.new w5 (b') (b' + pw l' - 1) 33)
        have H5 := Lib.hid (chain (chain H4.out hb5 H4.out.size) (below_one w5 (.cells #[.int .i64 (b'), .int .i64 (b' + pw l' - 1)] 33)) (by have := H4.out.size; have := hb5.size; omega))
        clear c0 c1 d0 d1 x0 x1 hb5 H4 P4 Q4 X4
        obtain ⟨c0, c1, -, -⟩ := P5.out
        obtain ⟨d0, d1, -, -⟩ := Q5.out
        obtain ⟨x0, x1, -, -⟩ := X5.out
        obtain ⟨y0, y1, -, -⟩ := Y5.out
        go_wp2_with fail
        refine (alive_any _).mono ?_
        rintro e w6 ⟨rfl, hb6⟩
        have H6 := chain H5.out hb6 H5.out.size
        clear hb6 c0 c1 d0 d1 x0 x1 y0 y1
        go_wp2
        go_ret
        exact ⟨rfl, H6⟩
    | true =>
      have HV := Lib.hid hv
      cases hv' : pvB b' l' with
      | false =>
        have hok : pwithin b l b' l' = false := by simp [pwithin, hv']
        rw [hok] at CI CS
        have HV' := Lib.hid hv'
        clear hv hv' hok
        go_wp2_with fail
        refine (CI.out _).mono ?_
        rintro e w2 ⟨rfl, hb2⟩
        have P2 := Lib.hid (P1.out.below hb2)
        have Q2 := Lib.hid (Q1.out.below hb2)
        have H2 := Lib.hid (chain (chain H1.out (below_two w1 _ _) hz1) hb2 (by simp; omega))
        obtain ⟨c0, c1, -, -⟩ := P2.out
        obtain ⟨d0, d1, -, -⟩ := Q2.out
        clear hb2 H1 P1 Q1 CI
        go_wp2_with fail
        refine (CS.out _).mono ?_
        rintro e w3 ⟨rfl, hb3⟩
        have P3 := Lib.hid (P2.out.below hb3)
        have Q3 := Lib.hid (Q2.out.below hb3)
        have H3 := Lib.hid (chain H2.out hb3 H2.out.size)
        clear c0 c1 d0 d1 hb3 H2 P2 Q2 CS
        obtain ⟨c0, c1, -, -⟩ := P3.out
        obtain ⟨d0, d1, -, -⟩ := Q3.out
        go_wp2_with fail
        refine (iPrefixSpan_yes b l _ HV.out).mono ?_
        rintro e w4 ⟨rfl, hb4⟩
        have P4 := Lib.hid ((P3.out.below hb4).alloc (.cells #[.int .i64 (b), .int .i64 (b + pw l - 1)] 33))
        have Q4 := Lib.hid ((Q3.out.below hb4).alloc (.cells #[.int .i64 (b), .int .i64 (b + pw l - 1)] 33))
        have X4 := Lib.hid (Two.new w4 (b) (b + pw l - 1) 33)
        have H4 := Lib.hid (chain (chain H3.out hb4 H3.out.size) (below_one w4 (.cells #[.int .i64 (b), .int .i64 (b + pw l - 1)] 33)) (by have := H3.out.size; have := hb4.size; omega))
        clear c0 c1 d0 d1 hb4 H3 P3 Q3
        obtain ⟨c0, c1, -, -⟩ := P4.out
        obtain ⟨d0, d1, -, -⟩ := Q4.out
        obtain ⟨x0, x1, -, -⟩ := X4.out
        go_wp2_with fail
        refine (iPrefixSpan_no b' l' _ HV'.out).mono ?_
        rintro e w5 ⟨rfl, hb5⟩
        have P5 := Lib.hid ((P4.out.below hb5).alloc (.cells #[.int .i64 0, .int .i64 0] 33))
        have Q5 := Lib.hid ((Q4.out.below hb5).alloc (.cells #[.int .i64 0, .int .i64 0] 33))
        have X5 := Lib.hid ((X4.out.below hb5).alloc (.cells #[.int .i64 0, .int .i64 0] 33))
        have Y5 := Lib.hid (Two.new w5 (0) (0) 33)
        have H5 := Lib.hid (chain (chain H4.out hb5 H4.out.size) (below_one w5 (.cells #[.int .i64 0, .int .i64 0] 33)) (by have := H4.out.size; have := hb5.size; omega))
        clear c0 c1 d0 d1 x0 x1 hb5 H4 P4 Q4 X4
        obtain ⟨c0, c1, -, -⟩ := P5.out
        obtain ⟨d0, d1, -, -⟩ := Q5.out
        obtain ⟨x0, x1, -, -⟩ := X5.out
        obtain ⟨y0, y1, -, -⟩ := Y5.out
        go_wp2_with fail
        refine (alive_any _).mono ?_
        rintro e w6 ⟨rfl, hb6⟩
        have H6 := chain H5.out hb6 H5.out.size
        clear hb6 c0 c1 d0 d1 x0 x1 y0 y1
        go_wp2
        go_ret
        exact ⟨rfl, H6⟩
      | true =>
        have HV' := Lib.hid hv'
        have hnest := nested_iff hv hv'
        have CA := Lib.hid (fun W => iPrefixWithin_any b l b l W)
        have C0 := Lib.hid (fun W => iPrefixWithin_any b l 0 0 W)
        have CB := Lib.hid (fun W => iPrefixWithin_any b' l' b l W)
        rw [within_self hv] at CA
        rw [within_all hv] at C0
        cases hok : pwithin b l b' l' with
        | true =>
          have hll := within_len hv hv' hok
          rw [hok] at CI CS
          rw [hok, Bool.true_or] at hnest
          have hap : ¬ b + pw l - 1 < b' ∧ ¬ b' + pw l' - 1 < b := by
            have := hnest.symm
            simpa [apartB] using this
          obtain ⟨a1, a2⟩ := hap
          have k1 : decide (b + pw l - 1 < b') = false := by simpa using a1
          have k2 : decide (b' + pw l' - 1 < b) = false := by simpa using a2
          have k3 : decide (l' ≤ l) = true := by simpa using hll
          clear hv hv' hok hnest CB a1 a2
          go_wp2_with fail
          refine (CI.out _).mono ?_
          rintro e w2 ⟨rfl, hb2⟩
          have P2 := Lib.hid (P1.out.below hb2)
          have Q2 := Lib.hid (Q1.out.below hb2)
          have H2 := Lib.hid (chain (chain H1.out (below_two w1 _ _) hz1) hb2 (by simp; omega))
          obtain ⟨c0, c1, -, -⟩ := P2.out
          obtain ⟨d0, d1, -, -⟩ := Q2.out
          clear hb2 H1 P1 Q1 CI
          go_wp2_with fail
          refine (CS.out _).mono ?_
          rintro e w3 ⟨rfl, hb3⟩
          have P3 := Lib.hid (P2.out.below hb3)
          have Q3 := Lib.hid (Q2.out.below hb3)
          have H3 := Lib.hid (chain H2.out hb3 H2.out.size)
          clear c0 c1 d0 d1 hb3 H2 P2 Q2 CS
          obtain ⟨c0, c1, -, -⟩ := P3.out
          obtain ⟨d0, d1, -, -⟩ := Q3.out
          go_wp2_with fail
          refine (iPrefixSpan_yes b l _ HV.out).mono ?_
          rintro e w4 ⟨rfl, hb4⟩
          have P4 := Lib.hid ((P3.out.below hb4).alloc (.cells #[.int .i64 (b), .int .i64 (b + pw l - 1)] 33))
          have Q4 := Lib.hid ((Q3.out.below hb4).alloc (.cells #[.int .i64 (b), .int .i64 (b + pw l - 1)] 33))
          have X4 := Lib.hid (Two.new w4 (b) (b + pw l - 1) 33)
          have H4 := Lib.hid (chain (chain H3.out hb4 H3.out.size) (below_one w4 (.cells #[.int .i64 (b), .int .i64 (b + pw l - 1)] 33)) (by have := H3.out.size; have := hb4.size; omega))
          clear c0 c1 d0 d1 hb4 H3 P3 Q3
          obtain ⟨c0, c1, -, -⟩ := P4.out
          obtain ⟨d0, d1, -, -⟩ := Q4.out
          obtain ⟨x0, x1, -, -⟩ := X4.out
          go_wp2_with fail
          refine (iPrefixSpan_yes b' l' _ HV'.out).mono ?_
          rintro e w5 ⟨rfl, hb5⟩
          have P5 := Lib.hid ((P4.out.below hb5).alloc (.cells #[.int .i64 (b'), .int .i64 (b' + pw l' - 1)] 33))
          have Q5 := Lib.hid ((Q4.out.below hb5).alloc (.cells #[.int .i64 (b'), .int .i64 (b' + pw l' - 1)] 33))
          have X5 := Lib.hid ((X4.out.below hb5).alloc (.cells #[.int .i64 (b'), .int .i64 (b' + pw l' - 1)] 33))
          have Y5 := Lib.hid (Two.new w5 (b') (b' + pw l' - 1) 33)
          have H5 := Lib.hid (chain (chain H4.out hb5 H4.out.size) (below_one w5 (.cells #[.int .i64 (b'), .int .i64 (b' + pw l' - 1)] 33)) (by have := H4.out.size; have := hb5.size; omega))
          clear c0 c1 d0 d1 x0 x1 hb5 H4 P4 Q4 X4
          obtain ⟨c0, c1, -, -⟩ := P5.out
          obtain ⟨d0, d1, -, -⟩ := Q5.out
          obtain ⟨x0, x1, -, -⟩ := X5.out
          obtain ⟨y0, y1, -, -⟩ := Y5.out
          have P6 := P5
          have H6 := H5
          go_wp2_with fail
          refine (CA.out _).mono ?_
          rintro e w7 ⟨rfl, hb7⟩
          have P7 := Lib.hid (P6.out.below hb7)
          have H7 := Lib.hid (chain H6.out hb7 H6.out.size)
          clear hb7 c0 c1
          obtain ⟨c0, c1, -, -⟩ := P7.out
          go_wp2_with fail
          refine (C0.out _).mono ?_
          rintro e w8 ⟨rfl, hb8⟩
          have H8 := chain H7.out hb8 H7.out.size
          clear hb8 c0 c1
          go_wp2
          go_ret
          exact ⟨rfl, H8⟩
        | false =>
          rw [hok] at CI CS
          rw [hok, Bool.false_or] at hnest
          cases hok' : pwithin b' l' b l with
          | true =>
            rw [hok'] at CB hnest
            have hap : ¬ b + pw l - 1 < b' ∧ ¬ b' + pw l' - 1 < b := by
              have := hnest.symm
              simpa [apartB] using this
            obtain ⟨a1, a2⟩ := hap
            have k1 : decide (b + pw l - 1 < b') = false := by simpa using a1
            have k2 : decide (b' + pw l' - 1 < b) = false := by simpa using a2
            clear hv hv' hok hok' hnest a1 a2
            go_wp2_with fail
            refine (CI.out _).mono ?_
            rintro e w2 ⟨rfl, hb2⟩
            have P2 := Lib.hid (P1.out.below hb2)
            have Q2 := Lib.hid (Q1.out.below hb2)
            have H2 := Lib.hid (chain (chain H1.out (below_two w1 _ _) hz1) hb2 (by simp; omega))
            obtain ⟨c0, c1, -, -⟩ := P2.out
            obtain ⟨d0, d1, -, -⟩ := Q2.out
            clear hb2 H1 P1 Q1 CI
            go_wp2_with fail
            refine (CS.out _).mono ?_
            rintro e w3 ⟨rfl, hb3⟩
            have P3 := Lib.hid (P2.out.below hb3)
            have Q3 := Lib.hid (Q2.out.below hb3)
            have H3 := Lib.hid (chain H2.out hb3 H2.out.size)
            clear c0 c1 d0 d1 hb3 H2 P2 Q2 CS
            obtain ⟨c0, c1, -, -⟩ := P3.out
            obtain ⟨d0, d1, -, -⟩ := Q3.out
            go_wp2_with fail
            refine (iPrefixSpan_yes b l _ HV.out).mono ?_
            rintro e w4 ⟨rfl, hb4⟩
            have P4 := Lib.hid ((P3.out.below hb4).alloc (.cells #[.int .i64 (b), .int .i64 (b + pw l - 1)] 33))
            have Q4 := Lib.hid ((Q3.out.below hb4).alloc (.cells #[.int .i64 (b), .int .i64 (b + pw l - 1)] 33))
            have X4 := Lib.hid (Two.new w4 (b) (b + pw l - 1) 33)
            have H4 := Lib.hid (chain (chain H3.out hb4 H3.out.size) (below_one w4 (.cells #[.int .i64 (b), .int .i64 (b + pw l - 1)] 33)) (by have := H3.out.size; have := hb4.size; omega))
            clear c0 c1 d0 d1 hb4 H3 P3 Q3
            obtain ⟨c0, c1, -, -⟩ := P4.out
            obtain ⟨d0, d1, -, -⟩ := Q4.out
            obtain ⟨x0, x1, -, -⟩ := X4.out
            go_wp2_with fail
            refine (iPrefixSpan_yes b' l' _ HV'.out).mono ?_
            rintro e w5 ⟨rfl, hb5⟩
            have P5 := Lib.hid ((P4.out.below hb5).alloc (.cells #[.int .i64 (b'), .int .i64 (b' + pw l' - 1)] 33))
            have Q5 := Lib.hid ((Q4.out.below hb5).alloc (.cells #[.int .i64 (b'), .int .i64 (b' + pw l' - 1)] 33))
            have X5 := Lib.hid ((X4.out.below hb5).alloc (.cells #[.int .i64 (b'), .int .i64 (b' + pw l' - 1)] 33))
            have Y5 := Lib.hid (Two.new w5 (b') (b' + pw l' - 1) 33)
            have H5 := Lib.hid (chain (chain H4.out hb5 H4.out.size) (below_one w5 (.cells #[.int .i64 (b'), .int .i64 (b' + pw l' - 1)] 33)) (by have := H4.out.size; have := hb5.size; omega))
            clear c0 c1 d0 d1 x0 x1 hb5 H4 P4 Q4 X4
            obtain ⟨c0, c1, -, -⟩ := P5.out
            obtain ⟨d0, d1, -, -⟩ := Q5.out
            obtain ⟨x0, x1, -, -⟩ := X5.out
            obtain ⟨y0, y1, -, -⟩ := Y5.out
            go_wp2_with fail
            refine (CB.out _).mono ?_
            rintro e w6 ⟨rfl, hb6⟩
            have P6 := Lib.hid (P5.out.below hb6)
            have H6 := Lib.hid (chain H5.out hb6 H5.out.size)
            clear hb6 c0 c1 d0 d1 x0 x1 y0 y1 Q5 X5 Y5 H5 P5 CB
            obtain ⟨c0, c1, -, -⟩ := P6.out
            go_wp2_with fail
            refine (CA.out _).mono ?_
            rintro e w7 ⟨rfl, hb7⟩
            have P7 := Lib.hid (P6.out.below hb7)
            have H7 := Lib.hid (chain H6.out hb7 H6.out.size)
            clear hb7 c0 c1
            obtain ⟨c0, c1, -, -⟩ := P7.out
            go_wp2_with fail
            refine (C0.out _).mono ?_
            rintro e w8 ⟨rfl, hb8⟩
            have H8 := chain H7.out hb8 H7.out.size
            clear hb8 c0 c1
            go_wp2
            go_ret
            exact ⟨rfl, H8⟩
          | false =>
            rw [hok'] at CB hnest
            have hap : b + pw l - 1 < b' ∨ b' + pw l' - 1 < b := by
              have := hnest.symm
              simp only [apartB, Bool.not_eq_false', Bool.or_eq_true, decide_eq_true_eq] at this
              exact this
            by_cases a1 : b + pw l - 1 < b'
            · have k1 : decide (b + pw l - 1 < b') = true := by simpa using a1
              clear hv hv' hok hok' hnest a1 hap
              go_wp2_with fail
              refine (CI.out _).mono ?_
              rintro e w2 ⟨rfl, hb2⟩
              have P2 := Lib.hid (P1.out.below hb2)
              have Q2 := Lib.hid (Q1.out.below hb2)
              have H2 := Lib.hid (chain (chain H1.out (below_two w1 _ _) hz1) hb2 (by simp; omega))
              obtain ⟨c0, c1, -, -⟩ := P2.out
              obtain ⟨d0, d1, -, -⟩ := Q2.out
              clear hb2 H1 P1 Q1 CI
              go_wp2_with fail
              refine (CS.out _).mono ?_
              rintro e w3 ⟨rfl, hb3⟩
              have P3 := Lib.hid (P2.out.below hb3)
              have Q3 := Lib.hid (Q2.out.below hb3)
              have H3 := Lib.hid (chain H2.out hb3 H2.out.size)
              clear c0 c1 d0 d1 hb3 H2 P2 Q2 CS
              obtain ⟨c0, c1, -, -⟩ := P3.out
              obtain ⟨d0, d1, -, -⟩ := Q3.out
              go_wp2_with fail
              refine (iPrefixSpan_yes b l _ HV.out).mono ?_
              rintro e w4 ⟨rfl, hb4⟩
              have P4 := Lib.hid ((P3.out.below hb4).alloc (.cells #[.int .i64 (b), .int .i64 (b + pw l - 1)] 33))
              have Q4 := Lib.hid ((Q3.out.below hb4).alloc (.cells #[.int .i64 (b), .int .i64 (b + pw l - 1)] 33))
              have X4 := Lib.hid (Two.new w4 (b) (b + pw l - 1) 33)
              have H4 := Lib.hid (chain (chain H3.out hb4 H3.out.size) (below_one w4 (.cells #[.int .i64 (b), .int .i64 (b + pw l - 1)] 33)) (by have := H3.out.size; have := hb4.size; omega))
              clear c0 c1 d0 d1 hb4 H3 P3 Q3
              obtain ⟨c0, c1, -, -⟩ := P4.out
              obtain ⟨d0, d1, -, -⟩ := Q4.out
              obtain ⟨x0, x1, -, -⟩ := X4.out
              go_wp2_with fail
              refine (iPrefixSpan_yes b' l' _ HV'.out).mono ?_
              rintro e w5 ⟨rfl, hb5⟩
              have P5 := Lib.hid ((P4.out.below hb5).alloc (.cells #[.int .i64 (b'), .int .i64 (b' + pw l' - 1)] 33))
              have Q5 := Lib.hid ((Q4.out.below hb5).alloc (.cells #[.int .i64 (b'), .int .i64 (b' + pw l' - 1)] 33))
              have X5 := Lib.hid ((X4.out.below hb5).alloc (.cells #[.int .i64 (b'), .int .i64 (b' + pw l' - 1)] 33))
              have Y5 := Lib.hid (Two.new w5 (b') (b' + pw l' - 1) 33)
              have H5 := Lib.hid (chain (chain H4.out hb5 H4.out.size) (below_one w5 (.cells #[.int .i64 (b'), .int .i64 (b' + pw l' - 1)] 33)) (by have := H4.out.size; have := hb5.size; omega))
              clear c0 c1 d0 d1 x0 x1 hb5 H4 P4 Q4 X4
              obtain ⟨c0, c1, -, -⟩ := P5.out
              obtain ⟨d0, d1, -, -⟩ := Q5.out
              obtain ⟨x0, x1, -, -⟩ := X5.out
              obtain ⟨y0, y1, -, -⟩ := Y5.out
              go_wp2_with fail
              refine (CB.out _).mono ?_
              rintro e w6 ⟨rfl, hb6⟩
              have P6 := Lib.hid (P5.out.below hb6)
              have H6 := Lib.hid (chain H5.out hb6 H5.out.size)
              clear hb6 c0 c1 d0 d1 x0 x1 y0 y1 Q5 X5 Y5 H5 P5 CB
              obtain ⟨c0, c1, -, -⟩ := P6.out
              go_wp2_with fail
              refine (CA.out _).mono ?_
              rintro e w7 ⟨rfl, hb7⟩
              have P7 := Lib.hid (P6.out.below hb7)
              have H7 := Lib.hid (chain H6.out hb7 H6.out.size)
              clear hb7 c0 c1
              obtain ⟨c0, c1, -, -⟩ := P7.out
              go_wp2_with fail
              refine (C0.out _).mono ?_
              rintro e w8 ⟨rfl, hb8⟩
              have H8 := chain H7.out hb8 H7.out.size
              clear hb8 c0 c1
              go_wp2
              go_ret
              exact ⟨rfl, H8⟩
            · have k1 : decide (b + pw l - 1 < b') = false := by simpa using a1
              have k2 : decide (b' + pw l' - 1 < b) = true := by
                have := hap.resolve_left a1
                simpa using this
              clear hv hv' hok hok' hnest a1 hap
              go_wp2_with fail
              refine (CI.out _).mono ?_
              rintro e w2 ⟨rfl, hb2⟩
              have P2 := Lib.hid (P1.out.below hb2)
              have Q2 := Lib.hid (Q1.out.below hb2)
              have H2 := Lib.hid (chain (chain H1.out (below_two w1 _ _) hz1) hb2 (by simp; omega))
              obtain ⟨c0, c1, -, -⟩ := P2.out
              obtain ⟨d0, d1, -, -⟩ := Q2.out
              clear hb2 H1 P1 Q1 CI
              go_wp2_with fail
              refine (CS.out _).mono ?_
              rintro e w3 ⟨rfl, hb3⟩
              have P3 := Lib.hid (P2.out.below hb3)
              have Q3 := Lib.hid (Q2.out.below hb3)
              have H3 := Lib.hid (chain H2.out hb3 H2.out.size)
              clear c0 c1 d0 d1 hb3 H2 P2 Q2 CS
              obtain ⟨c0, c1, -, -⟩ := P3.out
              obtain ⟨d0, d1, -, -⟩ := Q3.out
              go_wp2_with fail
              refine (iPrefixSpan_yes b l _ HV.out).mono ?_
              rintro e w4 ⟨rfl, hb4⟩
              have P4 := Lib.hid ((P3.out.below hb4).alloc (.cells #[.int .i64 (b), .int .i64 (b + pw l - 1)] 33))
              have Q4 := Lib.hid ((Q3.out.below hb4).alloc (.cells #[.int .i64 (b), .int .i64 (b + pw l - 1)] 33))
              have X4 := Lib.hid (Two.new w4 (b) (b + pw l - 1) 33)
              have H4 := Lib.hid (chain (chain H3.out hb4 H3.out.size) (below_one w4 (.cells #[.int .i64 (b), .int .i64 (b + pw l - 1)] 33)) (by have := H3.out.size; have := hb4.size; omega))
              clear c0 c1 d0 d1 hb4 H3 P3 Q3
              obtain ⟨c0, c1, -, -⟩ := P4.out
              obtain ⟨d0, d1, -, -⟩ := Q4.out
              obtain ⟨x0, x1, -, -⟩ := X4.out
              go_wp2_with fail
              refine (iPrefixSpan_yes b' l' _ HV'.out).mono ?_
              rintro e w5 ⟨rfl, hb5⟩
              have P5 := Lib.hid ((P4.out.below hb5).alloc (.cells #[.int .i64 (b'), .int .i64 (b' + pw l' - 1)] 33))
              have Q5 := Lib.hid ((Q4.out.below hb5).alloc (.cells #[.int .i64 (b'), .int .i64 (b' + pw l' - 1)] 33))
              have X5 := Lib.hid ((X4.out.below hb5).alloc (.cells #[.int .i64 (b'), .int .i64 (b' + pw l' - 1)] 33))
              have Y5 := Lib.hid (Two.new w5 (b') (b' + pw l' - 1) 33)
              have H5 := Lib.hid (chain (chain H4.out hb5 H4.out.size) (below_one w5 (.cells #[.int .i64 (b'), .int .i64 (b' + pw l' - 1)] 33)) (by have := H4.out.size; have := hb5.size; omega))
              clear c0 c1 d0 d1 x0 x1 hb5 H4 P4 Q4 X4
              obtain ⟨c0, c1, -, -⟩ := P5.out
              obtain ⟨d0, d1, -, -⟩ := Q5.out
              obtain ⟨x0, x1, -, -⟩ := X5.out
              obtain ⟨y0, y1, -, -⟩ := Y5.out
              go_wp2_with fail
              refine (CB.out _).mono ?_
              rintro e w6 ⟨rfl, hb6⟩
              have P6 := Lib.hid (P5.out.below hb6)
              have H6 := Lib.hid (chain H5.out hb6 H5.out.size)
              clear hb6 c0 c1 d0 d1 x0 x1 y0 y1 Q5 X5 Y5 H5 P5 CB
              obtain ⟨c0, c1, -, -⟩ := P6.out
              go_wp2_with fail
              refine (CA.out _).mono ?_
              rintro e w7 ⟨rfl, hb7⟩
              have P7 := Lib.hid (P6.out.below hb7)
              have H7 := Lib.hid (chain H6.out hb7 H6.out.size)
              clear hb7 c0 c1
              obtain ⟨c0, c1, -, -⟩ := P7.out
              go_wp2_with fail
              refine (C0.out _).mono ?_
              rintro e w8 ⟨rfl, hb8⟩
              have H8 := chain H7.out hb8 H7.out.size
              clear hb8 c0 c1
              go_wp2
              go_ret
              exact ⟨rfl, H8⟩
  · have hn1 : (1048576 : Int) < n := by omega
    clear hn
    go_enter Try.func5, Try.ntmps5
    go_wp2
    go_ret
    exact ⟨rfl, Below.refl _ _⟩
end Go.Proofs.Ytcodmhndigkplaa
