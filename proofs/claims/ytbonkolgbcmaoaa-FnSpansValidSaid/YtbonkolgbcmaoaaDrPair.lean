/-
  WALKS: spec.l20Pair, DrawSpansUnion, DrawSpansMeet, DrawSpansLess, DrawSpansOther, DrawSpansSize, DrawSpansWithin, DrawSpansHave, DrawSpansOf.
-/
import Derived.Test.YtbonkolgbcmaoaaDrTop
namespace Go.Proofs.Ytbonkolgbcmaoaa
open Go.ChangeShapes Go.WideShapes Go.ChangeAt Go.RowKit Go.Sort Pf

theorem own_none {w : World} {lo n c : Nat} {t : TypeId} {A : Option Addr} {us : List Value} (h : w.ownsRow lo t 2 (.slice A n c) n us) : A = none → c = 0 := by
  intro e
  rcases own_form h with ⟨-, -, hc⟩ | ⟨g, e', -⟩
  · exact hc
  · rw [e] at e'; cases e'
/-- A reader that the call made itself may have turned. -/
theorem below_reader {B g : Nat} {w w1 w2 : World} (h : Below B w w1) (hg : w1.grownBy w2 (some g)) (hB : B ≤ w1.heap.size) (hgB : B ≤ g) : Below B w w2 :=
  h.grown hg hB (fun k hk => by cases hk; exact hgB)

def DrewPair (g f : Nat) (w : World) (e : Ending) (w' : World) : Prop := ∃ (A : Option Addr) (c : Nat) (xs : PS) (B : Option Addr) (d : Nat) (ys : PS) (top : Int),
  e = .returned (.tuple #[.slice A xs.length c, .slice B ys.length d, .int .i64 top]) ∧ w'.ownsRow w.heap.size 30 2 (.slice A xs.length c) xs.length (flat xs) ∧
  w'.ownsRow w.heap.size 30 2 (.slice B ys.length d) ys.length (flat ys) ∧ TopIn top ∧ ShortOr top xs ∧ ShortOr top ys ∧ w.grownBy w' (some g) ∧ Rdr w' g f

set_option maxHeartbeats 1000000 in
theorem drPair_any (g f : Nat) (w : World) (h : Rdr w g (f + 121)) :
    Calls Try.prog 57 #[.pointer (some ⟨g, 0, none⟩)] w (DrewPair g f w) := by
  have hgw := h.lt
  have HR := Lib.hid h
  clear h
  go_enter Try.func57, Try.ntmps57
  go_wp2_with fail
  refine (drTop_any g (f + 120) _ HR.out).mono ?_
  rintro e w1 ⟨top, rfl, ht, hg1, hr1⟩
  obtain ⟨ht0, ht1⟩ := ht.bd
  have HT := Lib.hid ht
  have HG1 := Lib.hid hg1
  have HR1 := Lib.hid hr1
  have hs1 := hg1.size
  clear hg1 hr1 HR ht
  go_wp2_with fail
  refine (drSet_any g (f + 60) top 12 _ ht0 ht1 (by omega) (by omega) HR1.out).mono ?_
  rintro e w2 ⟨A, c, xs, rfl, own2, hx, hg2, hr2⟩
  have HO2 := Lib.hid (own_mono own2 hs1)
  have HX := Lib.hid hx
  have HG2 := Lib.hid (grownBy_trans HG1.out hg2)
  have HR2 := Lib.hid hr2
  have hs2 := HG2.out.size
  clear own2 hx hg2 hr2 HG1 HR1 hs1
  go_wp2_with fail
  refine (drSet_any g f top 12 _ ht0 ht1 (by omega) (by omega) HR2.out).mono ?_
  rintro e w3 ⟨B, d, ys, rfl, own3, hy, hg3, hr3⟩
  have HA := Lib.hid (own_grown HO2.out hg3 (.inl hgw))
  have HB := Lib.hid (own_mono own3 hs2)
  have HY := Lib.hid hy
  have HG3 := Lib.hid (grownBy_trans HG2.out hg3)
  clear own3 hy hg3 HG2 HR2 HO2
  go_wp2
  go_ret3
  exact ⟨A, c, xs, B, d, ys, top, rfl, HA.out, HB.out, HT.out, HX.out, HY.out, HG3.out, hr3⟩

/-- Two drawn lists and a largest number. -/
def DrawnPair (w : World) (e : Ending) (w' : World) : Prop := ∃ (A : Option Addr) (c : Nat) (xs : PS) (B : Option Addr) (d : Nat) (ys : PS) (top : Int),
  e = .returned (.tuple #[.slice A xs.length c, .slice B ys.length d, .int .i64 top]) ∧ (Rd w' A xs.length c xs ∧ (A = none → c = 0)) ∧ (Rd w' B ys.length d ys ∧ (B = none → d = 0)) ∧
  TopIn top ∧ ShortOr top xs ∧ ShortOr top ys ∧ Below w.heap.size w w'
/-- A drawn list and a number. -/
def DrawnSet (P : PS → Int → Prop) (w : World) (e : Ending) (w' : World) : Prop := ∃ (A : Option Addr) (c : Nat) (xs : PS) (top : Int),
  e = .returned (.tuple #[.slice A xs.length c, .int .i64 top]) ∧ (Rd w' A xs.length c xs ∧ (A = none → c = 0)) ∧ P xs top ∧ Below w.heap.size w w'

set_option maxHeartbeats 1000000 in
theorem drawSpansUnion_any (A : Option Addr) (n c : Nat) (zs : List Int) (w : World) (h : Rb w A n c zs) :
    Calls Try.prog 26 #[.slice A n c] w (DrawnPair w) := by
  have CO := Lib.hid (open_any A n c zs w h)
  clear h
  go_enter Try.func26, Try.ntmps26
  go_wp2_with fail
  refine (CO.out).mono ?_
  rintro e w1 ⟨g, rfl, hg, hr, hb⟩
  have HB := Lib.hid hb
  have HR := Lib.hid (hr.less (show 121 ≤ 1000000 by omega))
  have hs := hb.size
  clear hb hr CO
  go_wp2_with fail
  refine (drPair_any g 0 _ HR.out).mono ?_
  rintro e w2 ⟨A, c, xs, B, d, ys, top, rfl, o1, o2, ht, hx, hy, hg2, hr2⟩
  have H := Lib.hid (below_reader HB.out hg2 hs hg)
  have HO1 := Lib.hid o1
  have HO2 := Lib.hid o2
  have HT := Lib.hid ht
  have HX := Lib.hid hx
  have HY := Lib.hid hy
  clear o1 o2 ht hx hy hg2 hr2 HB HR
  go_wp2
  go_ret3
  exact ⟨A, c, xs, B, d, ys, top, rfl, ⟨own_rd HO1.out, own_none HO1.out⟩, ⟨own_rd HO2.out, own_none HO2.out⟩, HT.out, HX.out, HY.out, H.out⟩

set_option maxHeartbeats 1000000 in
theorem drawSpansMeet_any (A : Option Addr) (n c : Nat) (zs : List Int) (w : World) (h : Rb w A n c zs) :
    Calls Try.prog 32 #[.slice A n c] w (DrawnPair w) := by
  have CO := Lib.hid (open_any A n c zs w h)
  clear h
  go_enter Try.func32, Try.ntmps32
  go_wp2_with fail
  refine (CO.out).mono ?_
  rintro e w1 ⟨g, rfl, hg, hr, hb⟩
  have HB := Lib.hid hb
  have HR := Lib.hid (hr.less (show 121 ≤ 1000000 by omega))
  have hs := hb.size
  clear hb hr CO
  go_wp2_with fail
  refine (drPair_any g 0 _ HR.out).mono ?_
  rintro e w2 ⟨A, c, xs, B, d, ys, top, rfl, o1, o2, ht, hx, hy, hg2, hr2⟩
  have H := Lib.hid (below_reader HB.out hg2 hs hg)
  have HO1 := Lib.hid o1
  have HO2 := Lib.hid o2
  have HT := Lib.hid ht
  have HX := Lib.hid hx
  have HY := Lib.hid hy
  clear o1 o2 ht hx hy hg2 hr2 HB HR
  go_wp2
  go_ret3
  exact ⟨A, c, xs, B, d, ys, top, rfl, ⟨own_rd HO1.out, own_none HO1.out⟩, ⟨own_rd HO2.out, own_none HO2.out⟩, HT.out, HX.out, HY.out, H.out⟩

set_option maxHeartbeats 1000000 in
theorem drawSpansLess_any (A : Option Addr) (n c : Nat) (zs : List Int) (w : World) (h : Rb w A n c zs) :
    Calls Try.prog 38 #[.slice A n c] w (DrawnPair w) := by
  have CO := Lib.hid (open_any A n c zs w h)
  clear h
  go_enter Try.func38, Try.ntmps38
  go_wp2_with fail
  refine (CO.out).mono ?_
  rintro e w1 ⟨g, rfl, hg, hr, hb⟩
  have HB := Lib.hid hb
  have HR := Lib.hid (hr.less (show 121 ≤ 1000000 by omega))
  have hs := hb.size
  clear hb hr CO
  go_wp2_with fail
  refine (drPair_any g 0 _ HR.out).mono ?_
  rintro e w2 ⟨A, c, xs, B, d, ys, top, rfl, o1, o2, ht, hx, hy, hg2, hr2⟩
  have H := Lib.hid (below_reader HB.out hg2 hs hg)
  have HO1 := Lib.hid o1
  have HO2 := Lib.hid o2
  have HT := Lib.hid ht
  have HX := Lib.hid hx
  have HY := Lib.hid hy
  clear o1 o2 ht hx hy hg2 hr2 HB HR
  go_wp2
  go_ret3
  exact ⟨A, c, xs, B, d, ys, top, rfl, ⟨own_rd HO1.out, own_none HO1.out⟩, ⟨own_rd HO2.out, own_none HO2.out⟩, HT.out, HX.out, HY.out, H.out⟩

set_option maxHeartbeats 1000000 in
theorem drawSpansOther_any (A : Option Addr) (n c : Nat) (zs : List Int) (w : World) (h : Rb w A n c zs) :
    Calls Try.prog 30 #[.slice A n c] w (DrawnSet (fun xs top => TopIn top ∧ ShortOr top xs) w) := by
  have CO := Lib.hid (open_any A n c zs w h)
  clear h
  go_enter Try.func30, Try.ntmps30
  go_wp2_with fail
  refine (CO.out).mono ?_
  rintro e w1 ⟨g, rfl, hg, hr, hb⟩
  have HB := Lib.hid hb
  have HR := Lib.hid (hr.less (show 61 ≤ 1000000 by omega))
  have hs := hb.size
  clear hb hr CO
  go_wp2_with fail
  refine (drTop_any g 60 _ HR.out).mono ?_
  rintro e w2 ⟨top, rfl, ht, hg2, hr2⟩
  obtain ⟨ht0, ht1⟩ := ht.bd
  have HT := Lib.hid ht
  have H2 := Lib.hid (below_reader HB.out hg2 hs hg)
  have HR2 := Lib.hid hr2
  have hs2 := hg2.size
  clear hg2 hr2 HB HR ht
  go_wp2_with fail
  refine (drSet_any g 0 top 9 _ ht0 ht1 (by omega) (by omega) HR2.out).mono ?_
  rintro e w3 ⟨A, c, xs, rfl, own3, hx, hg3, hr3⟩
  have H := Lib.hid (below_reader H2.out hg3 (by omega) hg)
  have HO := Lib.hid own3
  have HX := Lib.hid hx
  clear own3 hx hg3 hr3 H2 HR2
  go_wp2
  go_ret2
  exact ⟨A, c, xs, top, rfl, ⟨own_rd HO.out, own_none HO.out⟩, ⟨HT.out, HX.out⟩, H.out⟩

set_option maxHeartbeats 1000000 in
theorem drawSpansSize_any (A : Option Addr) (n c : Nat) (zs : List Int) (w : World) (h : Rb w A n c zs) :
    Calls Try.prog 22 #[.slice A n c] w (DrawnSet (fun xs top => TopIn top ∧ ShortOr top xs) w) := by
  have CO := Lib.hid (open_any A n c zs w h)
  clear h
  go_enter Try.func22, Try.ntmps22
  go_wp2_with fail
  refine (CO.out).mono ?_
  rintro e w1 ⟨g, rfl, hg, hr, hb⟩
  have HB := Lib.hid hb
  have HR := Lib.hid (hr.less (show 61 ≤ 1000000 by omega))
  have hs := hb.size
  clear hb hr CO
  go_wp2_with fail
  refine (drTop_any g 60 _ HR.out).mono ?_
  rintro e w2 ⟨top, rfl, ht, hg2, hr2⟩
  obtain ⟨ht0, ht1⟩ := ht.bd
  have HT := Lib.hid ht
  have H2 := Lib.hid (below_reader HB.out hg2 hs hg)
  have HR2 := Lib.hid hr2
  have hs2 := hg2.size
  clear hg2 hr2 HB HR ht
  go_wp2_with fail
  refine (drSet_any g 0 top 6 _ ht0 ht1 (by omega) (by omega) HR2.out).mono ?_
  rintro e w3 ⟨A, c, xs, rfl, own3, hx, hg3, hr3⟩
  have H := Lib.hid (below_reader H2.out hg3 (by omega) hg)
  have HO := Lib.hid own3
  have HX := Lib.hid hx
  clear own3 hx hg3 hr3 H2 HR2
  go_wp2
  go_ret2
  exact ⟨A, c, xs, top, rfl, ⟨own_rd HO.out, own_none HO.out⟩, ⟨HT.out, HX.out⟩, H.out⟩

set_option maxHeartbeats 1000000 in
theorem drawSpansOf_any (A : Option Addr) (n c : Nat) (zs : List Int) (w : World) (h : Rb w A n c zs) :
    Calls Try.prog 48 #[.slice A n c] w (DrawnSet (fun xs top => TopIn top ∧ xs.length ≤ 5) w) := by
  have CO := Lib.hid (open_any A n c zs w h)
  clear h
  go_enter Try.func48, Try.ntmps48
  go_wp2_with fail
  refine (CO.out).mono ?_
  rintro e w1 ⟨g, rfl, hg, hr, hb⟩
  have HB := Lib.hid hb
  have HR := Lib.hid (hr.less (show 61 ≤ 1000000 by omega))
  have hs := hb.size
  clear hb hr CO
  go_wp2_with fail
  refine (drTop_any g 60 _ HR.out).mono ?_
  rintro e w2 ⟨top, rfl, ht, hg2, hr2⟩
  obtain ⟨ht0, ht1⟩ := ht.bd
  have HT := Lib.hid ht
  have H2 := Lib.hid (below_reader HB.out hg2 hs hg)
  have HR2 := Lib.hid hr2
  have hs2 := hg2.size
  clear hg2 hr2 HB HR ht
  go_wp2_with fail
  refine (drRaw_any g 19 top 20 _ ht0 ht1 (by omega) (by omega) HR2.out).mono ?_
  rintro e w3 ⟨A, c, xs, rfl, own3, hx, hg3, hr3⟩
  have H := Lib.hid (below_reader H2.out hg3 (by omega) hg)
  have HO := Lib.hid own3
  have HX := Lib.hid hx
  clear own3 hx hg3 hr3 H2 HR2
  go_wp2
  go_ret2
  exact ⟨A, c, xs, top, rfl, ⟨own_rd HO.out, own_none HO.out⟩, ⟨HT.out, HX.out⟩, H.out⟩

set_option maxHeartbeats 1000000 in
theorem drawSpansHave_any (A : Option Addr) (n c : Nat) (zs : List Int) (w : World) (h : Rb w A n c zs) :
    Calls Try.prog 15 #[.slice A n c] w (DrawnSet (fun xs v => xs.length ≤ 5 ∧ -2 ≤ v ∧ v ≤ 22) w) := by
  have CO := Lib.hid (open_any A n c zs w h)
  clear h
  go_enter Try.func15, Try.ntmps15
  go_wp2_with fail
  refine (CO.out).mono ?_
  rintro e w1 ⟨g, rfl, hg, hr, hb⟩
  have HB := Lib.hid hb
  have HR := Lib.hid (hr.less (show 42 ≤ 1000000 by omega))
  have hs := hb.size
  clear hb hr CO
  go_wp2_with fail
  refine (drRaw_any g 1 20 6 _ (by omega) (by omega) (by omega) (by omega) HR.out).mono ?_
  rintro e w2 ⟨A, c, xs, rfl, own2, hx, hg2, hr2⟩
  have H2 := Lib.hid (below_reader HB.out hg2 hs hg)
  have HO2 := Lib.hid own2
  have HX := Lib.hid hx
  have HR2 := Lib.hid hr2
  have hs2 := hg2.size
  have hgw := HR.out.lt
  clear hg2 hr2 HB HR own2 hx
  go_wp2_with fail
  refine (pick_any g _ 0 24 _ HR2.out rfl).mono ?_
  intro e w3 hp
  obtain ⟨v, rfl, hv0, hv1, hg3, hr3⟩ := picked_lt (by omega) hp
  clear hp
  have H := Lib.hid (below_reader H2.out hg3 (by omega) hg)
  have HO := Lib.hid (own_grown HO2.out hg3 (.inl hgw))
  clear hg3 hr3 H2 HR2 HO2
  go_wp2
  go_ret2
  exact ⟨A, c, xs, _, rfl, ⟨own_rd HO.out, own_none HO.out⟩, ⟨HX.out, by omega, by omega⟩, H.out⟩
end Go.Proofs.Ytbonkolgbcmaoaa
