/-
  THE WALK of the law FnPrefixValid.
-/
import Derived.Test.YtcodmhndigkplaaPreP
import Derived.Test.YtcodmhndigkplaaPv
import Derived.Test.YtcodmhndigkplaaDrPreV
import Derived.Test.YtcodmhndigkplaaIHave
namespace Go.Proofs.Ytcodmhndigkplaa
open Go.ChangeShapes Go.WideShapes Go.ChangeAt Go.RowKit Go.Sort Pf

set_option maxHeartbeats 1000000 in
theorem walkFnPrefixValid (A : Option Addr) (n c : Nat) (zs : List Int) (w : World) (h : Rb w A n c zs) :
    Calls Try.prog 3 #[.slice A n c] w fun e w' => e = .returned (.bool true) ∧ Below w.heap.size w w' := by
  have hmax : n ≤ maxLen := Nat.le_trans h.2.1 h.2.2.1
  unfold maxLen at hmax
  have CD := Lib.hid (drawPrefixValid_any A n c zs w h)
  clear h
  by_cases hn : n ≤ 1048576
  · have hn1 : (n : Int) ≤ 1048576 := by omega
    clear hn
    go_enter Try.func3, Try.ntmps3
    go_wp2_with fail
    refine (CD.out).mono ?_
    rintro e w1 ⟨b, l, rfl, hb1⟩
    have hz1 : w.heap.size ≤ w1.heap.size := hb1.size
    have H1 := Lib.hid hb1
    clear hb1 CD
    have CI := Lib.hid (fun W => iPrefixValid_any b l W)
    have CS := Lib.hid (fun W => sPrefixValid_any b l W)
    cases hv : pvB b l with
    | false =>
      rw [hv] at CI CS
      clear hv
      go_wp2_with fail
      refine (CI.out _).mono ?_
      rintro e w2 ⟨rfl, hb2⟩
      have s0 : w2.cell? ⟨w1.heap.size, 0, none⟩ = some (.int .i64 b) := keepCell hb2 (by go_cell)
      have s1 : w2.cell? ⟨w1.heap.size, 1, none⟩ = some (.int .i64 l) := keepCell hb2 (by go_cell)
      have H2 := Lib.hid (chain (chain H1.out (below_one w1 _) hz1) hb2 (by simp; omega))
      clear hb2 H1
      go_wp2_with fail
      refine (CS.out _).mono ?_
      rintro e w3 ⟨rfl, hb3⟩
      have H3 := Lib.hid (chain H2.out hb3 H2.out.size)
      clear hb3 s0 s1
      go_wp2_with fail
      refine (alive_any _).mono ?_
      rintro e w4 ⟨rfl, hb4⟩
      have H4 := chain H3.out hb4 H3.out.size
      clear hb4
      go_wp2
      go_ret
      exact ⟨rfl, H4⟩
    | true =>
      rw [hv] at CI CS
      have HV := Lib.hid hv
      obtain ⟨⟨l0, l1, b0, b1⟩, -⟩ := pvB_iff.1 hv
      have C16 := Lib.hid (fun W => iPrefixValid_any b 16 W)
      rw [pvB_host hv] at C16
      clear hv
      go_wp2_with fail
      refine (CI.out _).mono ?_
      rintro e w2 ⟨rfl, hb2⟩
      have s0 : w2.cell? ⟨w1.heap.size, 0, none⟩ = some (.int .i64 b) := keepCell hb2 (by go_cell)
      have s1 : w2.cell? ⟨w1.heap.size, 1, none⟩ = some (.int .i64 l) := keepCell hb2 (by go_cell)
      have H2 := Lib.hid (chain (chain H1.out (below_one w1 _) hz1) hb2 (by simp; omega))
      clear hb2 H1
      go_wp2_with fail
      refine (CS.out _).mono ?_
      rintro e w3 ⟨rfl, hb3⟩
      have t0 := keepCell hb3 s0
      have t1 := keepCell hb3 s1
      have H3 := Lib.hid (chain H2.out hb3 H2.out.size)
      clear hb3 s0 s1
      by_cases hl : l = 16
      · have hlb : (l == 16) = true := by simpa using hl
        clear hl
        go_wp2_with fail
        refine (C16.out _).mono ?_
        rintro e w4 ⟨rfl, hb4⟩
        have H4 := chain H3.out hb4 H3.out.size
        clear hb4 t0 t1
        go_wp2
        go_ret
        exact ⟨rfl, H4⟩
      · have hlb : (l == 16) = false := by simpa using hl
        have CM := Lib.hid (fun W => iPrefixValid_any (b + 1) l W)
        rw [pvB_moved HV.out hl] at CM
        clear hl
        go_wp2_with fail
        refine (CM.out _).mono ?_
        rintro e w4 ⟨rfl, hb4⟩
        have u0 := keepCell hb4 t0
        have u1 := keepCell hb4 t1
        have H4 := Lib.hid (chain H3.out hb4 H3.out.size)
        clear hb4 t0 t1
        go_wp2_with fail
        refine (C16.out _).mono ?_
        rintro e w5 ⟨rfl, hb5⟩
        have H5 := chain H4.out hb5 H4.out.size
        clear hb5 u0 u1
        go_wp2
        go_ret
        exact ⟨rfl, H5⟩
  · have hn1 : (1048576 : Int) < n := by omega
    clear hn
    go_enter Try.func3, Try.ntmps3
    go_wp2
    go_ret
    exact ⟨rfl, Below.refl _ _⟩
end Go.Proofs.Ytcodmhndigkplaa
