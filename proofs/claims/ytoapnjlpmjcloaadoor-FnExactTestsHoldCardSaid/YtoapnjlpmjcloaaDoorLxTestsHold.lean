/-
  THE WALK of the law FnExactTestsHold.
-/
import Derived.Test.YtoapnjlpmjcloaaDoorThs
import Derived.Test.YtoapnjlpmjcloaaDoorSzTest
import Derived.Test.YtoapnjlpmjcloaaDoorToTest
import Derived.Test.YtoapnjlpmjcloaaDoorEqTest
import Derived.Test.YtoapnjlpmjcloaaDoorTspansB
namespace Go.Proofs.YtoapnjlpmjcloaaDoor
open Go.ChangeShapes Go.WideShapes Go.ChangeAt Go.RowKit Go.Sort Pf

/-- The list's rows and the packet's box. -/
structure XS (w : World) (A : Option Addr) (n c : Nat) (xs : TS) (P : Nat) (ps : List Value) (wx : World) : Prop where
  hb : Below w.heap.size w wx
  rt : Rt wx A n c xs
  pb : Blk wx P ps
section
variable {w wx w' : World} {A : Option Addr} {n c P : Nat} {xs : TS} {ps : List Value}
theorem XS.below (h : XS w A n c xs P ps wx) (k : Below wx.heap.size wx w') : XS w A n c xs P ps w' := ⟨chain h.hb k h.hb.size, h.rt.below k, h.pb.below k⟩
theorem XS.drew (h : XS w A n c xs P ps wx) : XS w A n c xs P ps wx.drew := ⟨below_drewN h.hb 1, h.rt.drew, h.pb.drew⟩
end

set_option maxHeartbeats 2000000 in
theorem walkFnExactTestsHold (A0 : Option Addr) (n0 c0 : Nat) (xs0 : TS) (f t p r : Int) (w : World) (hT : Tab w) (h0 : Rt w A0 n0 c0 xs0) :
    Calls Tryd.prog 8 #[.slice A0 n0 c0, .agg #[.int .i64 f, .int .i64 t, .int .i64 p, .int .i64 r]] w fun e w' => e = .returned (.bool true) ∧ Below w.heap.size w w' := by
  have hmax0 : n0 ≤ maxLen := Nat.le_trans h0.2.1 h0.2.2.1
  obtain rfl : xs0.length = n0 := h0.len
  have HT := Lib.hid (fun W (hW : Below w.heap.size w W) => hT.below hW)
  have HB0 := below_one w (.cells #[.int .i64 f, .int .i64 t, .int .i64 p, .int .i64 r] 52)
  have X0 := Lib.hid (XS.mk HB0 (h0.below HB0) (Blk.new w #[.int .i64 f, .int .i64 t, .int .i64 p, .int .i64 r] 52))
  obtain ⟨v, hv⟩ : ∃ v, thsB xs0 f t p r = v := ⟨_, rfl⟩
  have HV := Lib.hid hv
  have hne : (v != v) = false := by simp
  clear hT h0 hv HB0
  by_cases hs0 : (xs0.length : Int) ≤ (1048576 : Int)
  · have hz0 : (0 : Int) ≤ 1048576 - xs0.length := by omega
    have cZ0 := Lib.hid (show ∀ W, Calls Tryd.prog 34 #[.slice A0 xs0.length c0, .int .i64 (1048576)] W fun e w' => e = .returned (.int .i64 (1048576 - xs0.length)) ∧ W = w' from fun W => by have := szTestS_any A0 xs0.length c0 (1048576) (by omega) (by omega) hmax0 W; rwa [show szF (1048576) xs0.length = 1048576 - xs0.length from by unfold szF; rw [if_neg (by omega)]] at this)
    have hn0 : xs0.length ≤ 1048576 := by omega
    clear hmax0
    go_enter Tryd.func8, Tryd.ntmps8
    go_wp2_with fail
    refine (cZ0.out _).mono ?_
    rintro e w' ⟨rfl, rfl⟩
    clear cZ0
    go_upto_region 5 with fail
    generalize hPv : w.heap.size = P at X0
    generalize w.alloc (.cells #[.int .i64 f, .int .i64 t, .int .i64 p, .int .i64 r] 52) = W at *
    go_cut [6] (fun s6 wx => s6 = .bool v ∧ XS w A0 xs0.length c0 xs0 P [.int .i64 f, .int .i64 t, .int .i64 p, .int .i64 r] wx)
    case first =>
      have Y0 := X0.out.drew
      have a0 := Y0.pb.c 0 rfl
      have a1 := Y0.pb.c 1 rfl
      have a2 := Y0.pb.c 2 rfl
      have a3 := Y0.pb.c 3 rfl
      go_wp2_with fail
      go_region_with (first | (go_at_call 36; ((with_reducible refine (toTestS_any A0 xs0.length c0 xs0 _ (XS.rt (by with_reducible assumption)) hn0).mono ?_); rintro e w1 ⟨B1, d1, rfl, own1, hb1⟩; have Y1 := XS.below (by with_reducible assumption) hb1; have R1 := Rt.of_own own1; have b0 := Y1.pb.c 0 rfl; have b1 := Y1.pb.c 1 rfl; have b2 := Y1.pb.c 2 rfl; have b3 := Y1.pb.c 3 rfl; clear hb1 own1)) | (go_at_call 37; ((with_reducible refine (toPacket_any f t p r _).mono ?_); rintro e w2 ⟨rfl, hb2⟩; have Y2 := XS.below (by with_reducible assumption) hb2; have R2 := R1.below hb2; clear hb2)) | (go_at_call 35; ((with_reducible refine (tv_bool (sTestsHold_any _ _ _ xs0 f t p r _ R2) HV.out).mono ?_); rintro e w3 ⟨rfl, hb3⟩; have Y3 := XS.below (by with_reducible assumption) hb3; clear hb3)))
      all_goals
        go_wp2
        go_meet
        exact ⟨rfl, Y3⟩
    case rest =>
      obtain ⟨rfl, st⟩ := hcut
      have X1 := Lib.hid st
      clear st X0
      go_wp2_with fail
      refine (toTestS_any A0 xs0.length c0 xs0 _ X1.out.rt hn0).mono ?_
      rintro e w3 ⟨B3, d3, rfl, own3, hb3⟩
      have X3 := Lib.hid (X1.out.below hb3)
      have R3 := Lib.hid (Rt.of_own own3)
      have a0 := X3.out.pb.c 0 rfl
      have a1 := X3.out.pb.c 1 rfl
      have a2 := X3.out.pb.c 2 rfl
      have a3 := X3.out.pb.c 3 rfl
      clear hb3 own3 X1
      go_wp2_with fail
      refine (toPacket_any f t p r _).mono ?_
      rintro e w4 ⟨rfl, hb4⟩
      have X4 := Lib.hid (X3.out.below hb4)
      have R4 := Lib.hid (R3.out.below hb4)
      clear hb4 X3 R3 a0 a1 a2 a3
      go_wp2_with fail
      refine (tv_bool (iTestsHold_any _ _ _ xs0 f t p r _ R4.out (HT.out _ X4.out.hb)) HV.out).mono ?_
      rintro e w5 ⟨rfl, hb5⟩
      have X5 := Lib.hid (X4.out.below hb5)
      have R5 := Lib.hid (R4.out.below hb5)
      clear hb5 X4 R4
      go_wp2_with fail
      refine (toTestS_any A0 xs0.length c0 xs0 _ X5.out.rt hn0).mono ?_
      rintro e w6 ⟨B6, d6, rfl, own6, hb6⟩
      have X6 := Lib.hid (X5.out.below hb6)
      have R6 := Lib.hid (R5.out.below hb6)
      have R7 := Lib.hid (Rt.of_own own6)
      clear hb6 own6 X5 R5
      go_wp2_with fail
      refine (eqTestS_same _ _ _ _ _ xs0 _ R6.out R7.out).mono ?_
      rintro e w7 ⟨rfl, hb7⟩
      have X7 := Lib.hid (X6.out.below hb7)
      clear hb7
      go_wp2
      go_ret
      exact ⟨rfl, X7.out.hb⟩
  · have cZ0 := Lib.hid (show ∀ W, Calls Tryd.prog 34 #[.slice A0 xs0.length c0, .int .i64 (1048576)] W fun e w' => e = .returned (.int .i64 (-1)) ∧ W = w' from fun W => by have := szTestS_any A0 xs0.length c0 (1048576) (by omega) (by omega) hmax0 W; rwa [show szF (1048576) xs0.length = -1 from by unfold szF; rw [if_pos (by omega)]] at this)
    clear hmax0
    go_enter Tryd.func8, Tryd.ntmps8
    go_wp2_with fail
    refine (cZ0.out _).mono ?_
    rintro e w' ⟨rfl, rfl⟩
    go_wp2
    go_ret
    exact ⟨rfl, X0.out.hb⟩
end Go.Proofs.YtoapnjlpmjcloaaDoor
