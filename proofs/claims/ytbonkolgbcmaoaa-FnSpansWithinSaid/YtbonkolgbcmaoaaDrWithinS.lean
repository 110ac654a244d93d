/-
  WALK: spec.DrawSpansWithin.
-/
import Derived.Test.YtbonkolgbcmaoaaDrPair
import Derived.Test.YtbonkolgbcmaoaaSpecOps
namespace Go.Proofs.Ytbonkolgbcmaoaa
open Go.ChangeShapes Go.WideShapes Go.ChangeAt Go.RowKit Go.Sort Pf

def DrawnTwoSets (w : World) (e : Ending) (w' : World) : Prop := ∃ (A : Option Addr) (c : Nat) (xs : PS) (B : Option Addr) (d : Nat) (ys : PS) (top : Int),
  e = .returned (.tuple #[.slice A xs.length c, .slice B ys.length d, .int .i64 top]) ∧ Rd w' A xs.length c xs ∧ Rd w' B ys.length d ys ∧ Below w.heap.size w w'

set_option maxHeartbeats 1000000 in
theorem drawSpansWithin_any (A : Option Addr) (n c : Nat) (zs : List Int) (w : World) (h : Rb w A n c zs) :
    Calls Try.prog 36 #[.slice A n c] w (DrawnTwoSets w) := by
  have CO := Lib.hid (open_any A n c zs w h)
  clear h
  go_enter Try.func36, Try.ntmps36
  go_wp2_with fail
  refine (CO.out).mono ?_
  rintro e w1 ⟨g, rfl, hg, hr, hb⟩
  have HB := Lib.hid hb
  have HR := Lib.hid (hr.less (show 122 ≤ 1000000 by omega))
  have hs := hb.size
  clear hb hr CO
  go_wp2_with fail
  refine (drPair_any g 1 _ HR.out).mono ?_
  rintro e w2 ⟨A, c, xs, B, d, ys, top, rfl, o1, o2, ht, hx, hy, hg2, hr2⟩
  have H2 := Lib.hid (below_reader HB.out hg2 hs hg)
  have hgw := HR.out.lt
  have hs2 := hg2.size
  have HR2 := Lib.hid hr2
  have HO1 := Lib.hid o1
  have HO2 := Lib.hid o2
  clear o1 o2 ht hx hy hg2 hr2 HB HR
  go_wp2_with fail
  refine (pick_any g _ 0 2 _ HR2.out rfl).mono ?_
  intro e w3 hp
  obtain ⟨v, rfl, hv0, hv1, hg3, hr3⟩ := picked_lt (by omega) hp
  clear hp
  have H := Lib.hid (below_reader H2.out hg3 (by omega) hg)
  have R1 := Lib.hid (own_rd (own_grown HO1.out hg3 (.inl hgw)))
  have R2 := Lib.hid (own_rd (own_grown HO2.out hg3 (.inl hgw)))
  clear hg3 hr3 H2 HR2 HO1 HO2
  by_cases h0 : v = 0
  · have hb : (v == 0) = true := by simpa using h0
    clear h0
    go_wp2_with fail
    refine (sSpansMeet_any A xs.length c xs B ys.length d ys top _ R1.out R2.out).mono ?_
    rintro e w4 ⟨A4, c4, rfl, own4, hb4⟩
    have R4 := Lib.hid (own_rd own4)
    have R5 := Lib.hid (R2.out.below hb4)
    have H4 := Lib.hid (chain H.out hb4 H.out.size)
    clear own4 hb4 R1 R2 H
    go_wp2
    go_ret3
    exact ⟨A4, c4, _, B, d, ys, top, rfl, R4.out, R5.out, H4.out⟩
  · have hb : (v == 0) = false := by simpa using h0
    clear h0
    go_wp2
    go_ret3
    exact ⟨A, c, xs, B, d, ys, top, rfl, R1.out, R2.out, H.out⟩
end Go.Proofs.Ytbonkolgbcmaoaa
