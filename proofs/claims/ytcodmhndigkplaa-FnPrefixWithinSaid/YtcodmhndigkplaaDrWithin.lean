/-
  WALK: spec.DrawPrefixWithin: some two prefixes.
-/
import Derived.Test.YtcodmhndigkplaaDrPrefix
import Derived.Test.YtcodmhndigkplaaTwo
import Derived.Test.YtcodmhndigkplaaPv
import Derived.BigRegion
import Derived.Deep.CutBlock
import Derived.Deep.DeepCutAuto
namespace Go.Proofs.Ytcodmhndigkplaa
open Go.ChangeShapes Go.WideShapes Go.ChangeAt Go.RowKit Go.Sort Pf

def DrawnFour (w : World) (e : Ending) (w' : World) : Prop := ∃ b l b' l' : Int, e = .returned (.tuple #[.agg #[.int .i64 b, .int .i64 l], .agg #[.int .i64 b', .int .i64 l']]) ∧ Below w.heap.size w w'

set_option maxHeartbeats 2000000 in
theorem drawPrefixWithin_any (A : Option Addr) (n c : Nat) (zs : List Int) (w : World) (h : Rb w A n c zs) :
    Calls Try.prog 25 #[.slice A n c] w (DrawnFour w) := by
  have CO := Lib.hid (open_any A n c zs _ ((h.alloc (.cells #[.int .i64 0, .int .i64 0] 24)).alloc (.cells #[.int .i64 0, .int .i64 0] 24)))
  have A0 := Lib.hid ((Two.new w 0 0 24).alloc (.cells #[.int .i64 0, .int .i64 0] 24))
  have B0 := Lib.hid (Two.new (w.alloc (.cells #[.int .i64 0, .int .i64 0] 24)) 0 0 24)
  have hsz : (w.alloc (.cells #[.int .i64 0, .int .i64 0] 24)).heap.size = w.heap.size + 1 := by simp
  rw [hsz] at B0
  clear h hsz
  go_enter Try.func25, Try.ntmps25
  go_wp2_with fail
  refine (CO.out).mono ?_
  rintro e w1 ⟨g, rfl, hg, hr, hb1⟩
  have A1 := Lib.hid (A0.out.below hb1)
  have B1 := Lib.hid (B0.out.below hb1)
  have H1 := Lib.hid (chain (below_two w _ _) hb1 (by simp; omega))
  have hgw : w.heap.size + 1 < g := by simp at hg; omega
  have HR := Lib.hid hr
  clear hb1 hr CO hg A0 B0
  go_wp2_with fail
  refine (drPrefix_any g 999991 14 w1 (by omega) (by omega) HR.out).mono ?_
  rintro e w2 ⟨b, l, rfl, hg2, hr2⟩
  have A2 := Lib.hid (A1.out.pick hg2 (by omega))
  have B2 := Lib.hid (B1.out.pick hg2 (by omega))
  have H2 := Lib.hid (H1.out.grown hg2 H1.out.size (fun k hk => by cases hk; omega))
  have R2 := Lib.hid (hr2.alloc (.cells #[.int .i64 b, .int .i64 l] 24))
  have P2 := Lib.hid (Two.new w2 b l 24)
  have hgs : g < w2.heap.size := hr2.lt
  clear hg2 hr2 HR A1 B1 H1
  go_wp2_with fail
  refine (drPrefix_any g 999982 14 _ (by omega) (by omega) R2.out).mono ?_
  rintro e w3 ⟨b', l', rfl, hg3, hr3⟩
  have A3 := Lib.hid ((A2.out.alloc _).pick hg3 (by omega))
  have B3 := Lib.hid ((B2.out.alloc _).pick hg3 (by omega))
  have P3 := Lib.hid (P2.out.pick hg3 (by omega))
  have hz3 : w2.heap.size < w3.heap.size := by have := hg3.size; simp at this; omega
  have H3 := Lib.hid ((chain H2.out (below_one w2 _) H2.out.size).grown hg3 (by have := H2.out.size; simp; omega) (fun k hk => by cases hk; omega))
  have R3 := Lib.hid (hr3.alloc (.cells #[.int .i64 b', .int .i64 l'] 24))
  have Q3 := Lib.hid (Two.new w3 b' l' 24)
  clear hg3 hr3 A2 B2 P2 H2 R2
  go_wp2_with fail
  refine (pick_any g _ 999981 2 _ R3.out rfl).mono ?_
  intro e w4 hp
  obtain ⟨v, rfl, hv0, hv1, hg4, hr4⟩ := hp
  have A4 := Lib.hid ((A3.out.alloc _).pick hg4 (by omega))
  have B4 := Lib.hid ((B3.out.alloc _).pick hg4 (by omega))
  have P4 := Lib.hid ((P3.out.alloc _).pick hg4 (by omega))
  have Q4 := Lib.hid (Q3.out.pick hg4 (by omega))
  have H4 := Lib.hid ((chain H3.out (below_one w3 _) H3.out.size).grown hg4 (by have := H3.out.size; simp; omega) (fun k hk => by cases hk; omega))
  have R4 := Lib.hid hr4
  clear hg4 hr4 A3 B3 P3 Q3 H3 R3
  have CS := Lib.hid (fun W => sPrefixValid_any b l W)
  by_cases h0 : v = 0
  · have hb : (v == 0) = true := by simpa using h0
    clear h0
    have c0 := P4.out.c0
    have c1 := P4.out.c1
    cases hv : pvB b l with
    | false =>
      rw [hv] at CS
      clear hv
      go_wp2_with fail
      refine (CS.out _).mono ?_
      rintro e w9 ⟨rfl, hb9⟩
      have A9 := Lib.hid (A4.out.below hb9)
      have B9 := Lib.hid (B4.out.below hb9)
      have P9 := Lib.hid (P4.out.below hb9)
      have Q9 := Lib.hid (Q4.out.below hb9)
      have H9 := Lib.hid (chain H4.out hb9 H4.out.size)
      clear hb9 c0 c1 A4 B4 P4 Q4 H4 R4 CS
      obtain ⟨a0, a1, a2, a3⟩ := A9.out
      obtain ⟨b0, b1, b2, b3⟩ := B9.out
      obtain ⟨p0, p1, -, -⟩ := P9.out
      obtain ⟨q0, q1, -, -⟩ := Q9.out
      go_upto_region 7 with fail
      go_region
      go_wp2
      refine bodyPost_ret (v := .tuple #[.agg #[.int .i64 b, .int .i64 l], .agg #[.int .i64 b', .int .i64 l']]) (by simp [results, Try.results25, go_sem, a0, a1, b0, b1]) rfl ⟨_, _, _, _, rfl, ?_⟩
      first
        | exact below_drewN ((((H9.out.setCell (by simp) _).setCell (by simp) _).setCell (by simp) _).setCell (by simp) _) 1
        | exact (((((below_drewN H9.out 1).setCell (by simp) _).setCell (by simp) _).setCell (by simp) _).setCell (by simp) _)
    | true =>
      rw [hv] at CS
      obtain ⟨⟨l0, l1, -, -⟩, -⟩ := pvB_iff.1 hv
      clear hv
      go_wp2_with fail
      refine (CS.out _).mono ?_
      rintro e w5 ⟨rfl, hb5⟩
      have A5 := Lib.hid (A4.out.below hb5)
      have B5 := Lib.hid (B4.out.below hb5)
      have P5 := Lib.hid (P4.out.below hb5)
      have Q5 := Lib.hid (Q4.out.below hb5)
      have H5 := Lib.hid (chain H4.out hb5 H4.out.size)
      have R5 := Lib.hid (R4.out.below hb5)
      have d1 := P5.out.c1
      clear hb5 c0 c1 A4 B4 P4 Q4 H4 R4 CS
      go_wp2_with fail
      refine (pick_any g _ 999980 _ _ R5.out rfl).mono ?_
      intro e w6 hp
      obtain ⟨u, rfl, hu0, hu1, hg6, hr6⟩ := hp
      have hu16 : u ≤ 16 := by omega
      have A6 := Lib.hid (A5.out.pick hg6 (by omega))
      have B6 := Lib.hid (B5.out.pick hg6 (by omega))
      have P6 := Lib.hid (P5.out.pick hg6 (by omega))
      have Q6 := Lib.hid (Q5.out.pick hg6 (by omega))
      have H6 := Lib.hid (H5.out.grown hg6 H5.out.size (fun k hk => by cases hk; omega))
      clear hg6 hr6 d1 A5 B5 P5 Q5 H5 R5
      obtain ⟨c0, c1, -, -⟩ := P6.out
      obtain ⟨e0, e1, e2, e3⟩ := Q6.out
      have hs : IntKind.i64.wrap (16 - u) = 16 - u := IntWalk.i64_in _ (by omega)
      have hs0 : 0 ≤ 16 - u := by omega
      go_upto_region 7 with fail
      generalize wrap64 (b / 2 ^ (16 - u).toNat * 2 ^ (16 - u).toNat) = q
      have A9 := Lib.hid ((A6.out.other (a := ⟨w3.heap.size, 0, none⟩) (v := .int .i64 q) (by show w3.heap.size ≠ _; omega)).other (a := ⟨w3.heap.size, 1, none⟩) (v := .int .i64 u) (by show w3.heap.size ≠ _; omega))
      have B9 := Lib.hid ((B6.out.other (a := ⟨w3.heap.size, 0, none⟩) (v := .int .i64 q) (by show w3.heap.size ≠ _; omega)).other (a := ⟨w3.heap.size, 1, none⟩) (v := .int .i64 u) (by show w3.heap.size ≠ _; omega))
      have P9 := Lib.hid ((P6.out.other (a := ⟨w3.heap.size, 0, none⟩) (v := .int .i64 q) (by show w3.heap.size ≠ _; omega)).other (a := ⟨w3.heap.size, 1, none⟩) (v := .int .i64 u) (by show w3.heap.size ≠ _; omega))
      have Q9 := Lib.hid ((Q6.out.set0 q).set1 u)
      have hW : w.heap.size ≤ w3.heap.size := by omega
      have H7 : Below w.heap.size w (w6.setCell ⟨w3.heap.size, 0, none⟩ (.int .i64 q)) := H6.out.setCell hW _
      have H8 : Below w.heap.size w ((w6.setCell ⟨w3.heap.size, 0, none⟩ (.int .i64 q)).setCell ⟨w3.heap.size, 1, none⟩ (.int .i64 u)) := H7.setCell hW _
      have H9 := Lib.hid H8
      clear c0 c1 e0 e1 e2 e3 hs hs0 A6 B6 P6 Q6 H6 H7 H8
      revert A9 B9 P9 Q9 H9
      generalize ((w6.setCell ⟨w3.heap.size, 0, none⟩ (.int .i64 q)).setCell ⟨w3.heap.size, 1, none⟩ (.int .i64 u)) = w9
      intro A9 B9 P9 Q9 H9
      obtain ⟨a0, a1, a2, a3⟩ := A9.out
      obtain ⟨b0, b1, b2, b3⟩ := B9.out
      obtain ⟨p0, p1, -, -⟩ := P9.out
      obtain ⟨q0, q1, -, -⟩ := Q9.out
      go_region
      go_wp2
      refine bodyPost_ret (v := .tuple #[.agg #[.int .i64 b, .int .i64 l], .agg #[.int .i64 q, .int .i64 u]]) (by simp [results, Try.results25, go_sem, a0, a1, b0, b1]) rfl ⟨_, _, _, _, rfl, ?_⟩
      first
        | exact below_drewN ((((H9.out.setCell (by simp) _).setCell (by simp) _).setCell (by simp) _).setCell (by simp) _) 1
        | exact (((((below_drewN H9.out 1).setCell (by simp) _).setCell (by simp) _).setCell (by simp) _).setCell (by simp) _)
  · have hb : (v == 0) = false := by simpa using h0
    clear h0 CS R4
    have A9 := A4
    have B9 := B4
    have P9 := P4
    have Q9 := Q4
    have H9 := H4
    clear A4 B4 P4 Q4 H4
    obtain ⟨a0, a1, a2, a3⟩ := A9.out
    obtain ⟨b0, b1, b2, b3⟩ := B9.out
    obtain ⟨p0, p1, -, -⟩ := P9.out
    obtain ⟨q0, q1, -, -⟩ := Q9.out
    go_upto_region 7 with fail
    go_region
    go_wp2
    refine bodyPost_ret (v := .tuple #[.agg #[.int .i64 b, .int .i64 l], .agg #[.int .i64 b', .int .i64 l']]) (by simp [results, Try.results25, go_sem, a0, a1, b0, b1]) rfl ⟨_, _, _, _, rfl, ?_⟩
    first
      | exact below_drewN ((((H9.out.setCell (by simp) _).setCell (by simp) _).setCell (by simp) _).setCell (by simp) _) 1
      | exact (((((below_drewN H9.out 1).setCell (by simp) _).setCell (by simp) _).setCell (by simp) _).setCell (by simp) _)
end Go.Proofs.Ytcodmhndigkplaa
