/-
  THE WALK of the law FnFieldTop.
-/
import Derived.Test.YtipmnoojnfegjaaDoorDraw
import Derived.Test.YtipmnoojnfegjaaDoorTop
import Derived.Test.YtipmnoojnfegjaaDoorIHave
namespace Go.Proofs.YtipmnoojnfegjaaDoor
open Go.ChangeShapes Go.WideShapes Go.ChangeAt Go.RowKit Go.Sort Pf

/-- A drawn number. -/
def DrawnN (P : Int → Prop) (w : World) (e : Ending) (w' : World) : Prop := ∃ v : Int, e = .returned (.int .i64 v) ∧ P v ∧ Below w.heap.size w w'

set_option maxHeartbeats 1000000 in
theorem drawFieldTop_any (A : Option Addr) (n c : Nat) (zs : List Int) (w : World) (h : Rb w A n c zs) :
    Calls Tryd.prog 13 #[.slice A n c] w (DrawnN (fun v => -1 ≤ v ∧ v ≤ 4) w) := by
  have CO := Lib.hid (open_any A n c zs w h)
  clear h
  go_enter Tryd.func13, Tryd.ntmps13
  go_wp2_with fail
  refine (CO.out).mono ?_
  rintro e w1 ⟨g, rfl, hg, hr, hb⟩
  have HB := Lib.hid hb
  have HR := Lib.hid (hr.less (show 1 ≤ 1000000 by omega))
  have hs := hb.size
  clear hb hr CO
  go_wp2_with fail
  refine (pick_any g _ 0 6 _ HR.out rfl).mono ?_
  intro e w2 hp
  obtain ⟨v, rfl, hv0, hv1, hg2, hr2⟩ := picked_lt (by omega) hp
  clear hp
  have H := Lib.hid (HB.out.grown hg2 hs (fun k hk => by cases hk; exact hg))
  clear hg2 hr2 HB HR
  go_wp2
  go_ret
  exact ⟨_, rfl, ⟨by omega, by omega⟩, H.out⟩

set_option maxHeartbeats 2000000 in
theorem walkFnFieldTop (A : Option Addr) (n c : Nat) (zs : List Int) (w : World) (hT : Tab w) (h : Rb w A n c zs) :
    Calls Tryd.prog 3 #[.slice A n c] w fun e w' => e = .returned (.bool true) ∧ Below w.heap.size w w' := by
  have hmax : n ≤ maxLen := Nat.le_trans h.2.1 h.2.2.1
  unfold maxLen at hmax
  have CD := Lib.hid (drawFieldTop_any A n c zs w h)
  have HT := Lib.hid (fun W (hW : Below w.heap.size w W) => hT.below hW)
  clear h hT
  by_cases hn : n ≤ 1048576
  · have hn1 : (n : Int) ≤ 1048576 := by omega
    clear hn
    go_enter Tryd.func3, Tryd.ntmps3
    go_wp2_with fail
    refine (CD.out).mono ?_
    rintro e w1 ⟨v, rfl, ⟨hv0, hv1⟩, hb1⟩
    have H := Lib.hid hb1
    have C0 := (iFieldTop_any 0 w1 (HT.out _ hb1))
    have C1 := (iFieldTop_any 1 w1 (HT.out _ hb1))
    have CI := (iFieldTop_any v w1 (HT.out _ hb1))
    have CS := (sFieldTop_any v w1)
    rw [topF_0] at C0
    rw [topF_1] at C1
    have C0 := Lib.hid C0
    have C1 := Lib.hid C1
    have hv : v = -1 ∨ v = 0 ∨ v = 1 ∨ v = 2 ∨ v = 3 ∨ v = 4 := by omega
    clear hb1 CD hv0 hv1
    rcases hv with rfl | rfl | rfl | rfl | rfl | rfl
    · have et : topF (-1) = -1 := by decide
      rw [et] at CI CS
      have CI := Lib.hid CI
      have CS := Lib.hid CS
      clear et
      go_wp2_with (first | (go_at_call 15; refine (CS.out).mono ?_; rintro e w' ⟨rfl, rfl⟩) | (go_at_call 14; (first | (with_reducible refine (CI.out).mono ?_) | (with_reducible refine (C0.out).mono ?_) | (with_reducible refine (C1.out).mono ?_)); rintro e w' ⟨rfl, rfl⟩) | fail)
      refine (alive_any _).mono ?_
      rintro e w4 ⟨rfl, hb4⟩
      have H4 := Lib.hid (chain H.out hb4 H.out.size)
      clear hb4
      go_wp2
      go_ret
      exact ⟨rfl, H4.out⟩
    · have et : topF (0) = 65535 := by decide
      rw [et] at CI CS
      have CI := Lib.hid CI
      have CS := Lib.hid CS
      clear et
      go_wp2_with (first | (go_at_call 15; refine (CS.out).mono ?_; rintro e w' ⟨rfl, rfl⟩) | (go_at_call 14; (first | (with_reducible refine (CI.out).mono ?_) | (with_reducible refine (C0.out).mono ?_) | (with_reducible refine (C1.out).mono ?_)); rintro e w' ⟨rfl, rfl⟩) | fail)
      refine (alive_any _).mono ?_
      rintro e w4 ⟨rfl, hb4⟩
      have H4 := Lib.hid (chain H.out hb4 H.out.size)
      clear hb4
      go_wp2
      go_ret
      exact ⟨rfl, H4.out⟩
    · have et : topF (1) = 65535 := by decide
      rw [et] at CI CS
      have CI := Lib.hid CI
      have CS := Lib.hid CS
      clear et
      go_wp2_with (first | (go_at_call 15; refine (CS.out).mono ?_; rintro e w' ⟨rfl, rfl⟩) | (go_at_call 14; (first | (with_reducible refine (CI.out).mono ?_) | (with_reducible refine (C0.out).mono ?_) | (with_reducible refine (C1.out).mono ?_)); rintro e w' ⟨rfl, rfl⟩) | fail)
      refine (alive_any _).mono ?_
      rintro e w4 ⟨rfl, hb4⟩
      have H4 := Lib.hid (chain H.out hb4 H.out.size)
      clear hb4
      go_wp2
      go_ret
      exact ⟨rfl, H4.out⟩
    · have et : topF (2) = 255 := by decide
      rw [et] at CI CS
      have CI := Lib.hid CI
      have CS := Lib.hid CS
      clear et
      go_wp2_with (first | (go_at_call 15; refine (CS.out).mono ?_; rintro e w' ⟨rfl, rfl⟩) | (go_at_call 14; (first | (with_reducible refine (CI.out).mono ?_) | (with_reducible refine (C0.out).mono ?_) | (with_reducible refine (C1.out).mono ?_)); rintro e w' ⟨rfl, rfl⟩) | fail)
      refine (alive_any _).mono ?_
      rintro e w4 ⟨rfl, hb4⟩
      have H4 := Lib.hid (chain H.out hb4 H.out.size)
      clear hb4
      go_wp2
      go_ret
      exact ⟨rfl, H4.out⟩
    · have et : topF (3) = 7 := by decide
      rw [et] at CI CS
      have CI := Lib.hid CI
      have CS := Lib.hid CS
      clear et
      go_wp2_with (first | (go_at_call 15; refine (CS.out).mono ?_; rintro e w' ⟨rfl, rfl⟩) | (go_at_call 14; (first | (with_reducible refine (CI.out).mono ?_) | (with_reducible refine (C0.out).mono ?_) | (with_reducible refine (C1.out).mono ?_)); rintro e w' ⟨rfl, rfl⟩) | fail)
      refine (alive_any _).mono ?_
      rintro e w4 ⟨rfl, hb4⟩
      have H4 := Lib.hid (chain H.out hb4 H.out.size)
      clear hb4
      go_wp2
      go_ret
      exact ⟨rfl, H4.out⟩
    · have et : topF (4) = -1 := by decide
      rw [et] at CI CS
      have CI := Lib.hid CI
      have CS := Lib.hid CS
      clear et
      go_wp2_with (first | (go_at_call 15; refine (CS.out).mono ?_; rintro e w' ⟨rfl, rfl⟩) | (go_at_call 14; (first | (with_reducible refine (CI.out).mono ?_) | (with_reducible refine (C0.out).mono ?_) | (with_reducible refine (C1.out).mono ?_)); rintro e w' ⟨rfl, rfl⟩) | fail)
      refine (alive_any _).mono ?_
      rintro e w4 ⟨rfl, hb4⟩
      have H4 := Lib.hid (chain H.out hb4 H.out.size)
      clear hb4
      go_wp2
      go_ret
      exact ⟨rfl, H4.out⟩
  · have hn1 : (1048576 : Int) < n := by omega
    clear hn
    go_enter Tryd.func3, Tryd.ntmps3
    go_wp2
    go_ret
    exact ⟨rfl, Below.refl _ _⟩
end Go.Proofs.YtipmnoojnfegjaaDoor
