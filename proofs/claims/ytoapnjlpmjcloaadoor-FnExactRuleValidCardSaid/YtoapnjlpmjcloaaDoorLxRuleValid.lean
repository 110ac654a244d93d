/-
  THE WALK of the law FnExactRuleValid.
-/
import Derived.Test.YtoapnjlpmjcloaaDoorRuleV
import Derived.Test.YtoapnjlpmjcloaaDoorRuleX
import Derived.Test.YtoapnjlpmjcloaaDoorTspansB
namespace Go.Proofs.YtoapnjlpmjcloaaDoor
open Go.ChangeShapes Go.WideShapes Go.ChangeAt Go.RowKit Go.Sort Pf
set_option maxRecDepth 20000

/-- The argument's box, its tests, the copy's box and tests. -/
structure RS (w : World) (A : Option Addr) (n c : Nat) (xs : TS) (P : Nat) (ps : List Value) (wx : World) : Prop where
  hb : Below w.heap.size w wx
  rt : Rt wx A n c xs
  pb : Blk wx P ps
section
variable {w wx w' : World} {A : Option Addr} {n c P : Nat} {xs : TS} {ps : List Value}
theorem RS.below (h : RS w A n c xs P ps wx) (k : Below wx.heap.size wx w') : RS w A n c xs P ps w' := ⟨chain h.hb k h.hb.size, h.rt.below k, h.pb.below k⟩
theorem RS.alloc (h : RS w A n c xs P ps wx) (o : Obj) : RS w A n c xs P ps (wx.alloc o) := h.below (below_one wx o)
theorem RS.drew (h : RS w A n c xs P ps wx) : RS w A n c xs P ps wx.drew := ⟨below_drewN h.hb 1, h.rt.drew, h.pb.drew⟩
end

set_option maxHeartbeats 2000000 in
theorem walkFnExactRuleValid (A0 : Option Addr) (n0 c0 : Nat) (xs0 : TS) (a ch : Int) (w : World) (hT : Tab w) (h0 : Rt w A0 n0 c0 xs0) :
    Calls Tryd.prog 7 #[.agg #[.slice A0 n0 c0, .int .i64 a, .int .i64 ch]] w fun e w' => e = .returned (.bool true) ∧ Below w.heap.size w w' := by
  have hmax0 : n0 ≤ maxLen := Nat.le_trans h0.2.1 h0.2.2.1
  obtain rfl : xs0.length = n0 := h0.len
  have HT := Lib.hid (fun W (hW : Below w.heap.size w W) => hT.below hW)
  have HB0 := below_one w (.cells #[.slice A0 xs0.length c0, .int .i64 a, .int .i64 ch] 44)
  have X0 := Lib.hid (RS.mk HB0 (h0.below HB0) (Blk.new w #[.slice A0 xs0.length c0, .int .i64 a, .int .i64 ch] 44))
  obtain ⟨v, hv⟩ : ∃ v, rvB xs0 a ch = v := ⟨_, rfl⟩
  have HV := Lib.hid hv
  have hne : (v != v) = false := by simp
  have CZ := Lib.hid (fun W => szRule_any A0 xs0.length c0 a ch hmax0 W)
  clear hT h0 hv HB0
  by_cases hs0 : (xs0.length : Int) ≤ (1048576 : Int)
  · have hz0 : (0 : Int) ≤ 1048576 - xs0.length := by omega
    have hz1 : szF 1048576 xs0.length = 1048576 - xs0.length := by unfold szF; rw [if_neg (by omega)]
    rw [hz1] at CZ
    have hn0 : xs0.length ≤ 1048576 := by omega
    clear hmax0 hz1
    go_enter Tryd.func7, Tryd.ntmps7
    go_wp2_with fail
    refine (CZ.out _).mono ?_
    rintro e w1 ⟨rfl, hb1⟩
    have X1 := Lib.hid (X0.out.below hb1)
    clear hb1 X0 CZ
    have a0 := X1.out.pb.c 0 rfl
    have a1 := X1.out.pb.c 1 rfl
    have a2 := X1.out.pb.c 2 rfl
    go_wp2_with fail
    refine (toRule_any A0 xs0.length c0 xs0 a ch _ X1.out.rt hn0).mono ?_
    rintro e w2 ⟨B2, d2, rfl, r2, hb2⟩
    have X2 := Lib.hid (X1.out.below hb2)
    have R2 := Lib.hid r2
    clear hb2 r2 X1 a0 a1 a2
    go_wp2_with fail
    refine (tv_bool (sRuleValid_any B2 xs0.length d2 xs0 a ch _ R2.out) HV.out).mono ?_
    rintro e w3 ⟨rfl, hb3⟩
    have X3 := Lib.hid (X2.out.below hb3)
    clear hb3 X2 R2
    have a0 := X3.out.pb.c 0 rfl
    have a1 := X3.out.pb.c 1 rfl
    have a2 := X3.out.pb.c 2 rfl
    go_wp2_with fail
    refine (toRule_any A0 xs0.length c0 xs0 a ch _ X3.out.rt hn0).mono ?_
    rintro e w4 ⟨B4, d4, rfl, r4, hb4⟩
    have hx := below_one w4 (.cells #[.slice B4 xs0.length d4, .int .i64 a, .int .i64 ch] 48)
    have X4 := Lib.hid ((X3.out.below hb4).below hx)
    have R4 := Lib.hid (r4.below hx)
    have K4 := Lib.hid (Blk.new w4 #[.slice B4 xs0.length d4, .int .i64 a, .int .i64 ch] 48)
    clear hb4 r4 hx X3 a0 a1 a2
    go_wp2_with fail
    refine (tv_bool (iRuleValid_any B4 xs0.length d4 xs0 a ch _ R4.out (HT.out _ X4.out.hb)) HV.out).mono ?_
    rintro e w5 ⟨rfl, hb5⟩
    have X5 := Lib.hid (X4.out.below hb5)
    have R5 := Lib.hid (R4.out.below hb5)
    have K5 := Lib.hid (K4.out.below hb5)
    clear hb5 X4 R4 K4
    go_upto_region 10 with fail
    go_cut [26] (fun s26 wx => s26 = .bool false ∧ Below w.heap.size w wx)
    case first =>
      have Y5 := X5.out.drew
      have Q5 := R5.out.drew
      have a0 := Y5.pb.c 0 rfl
      have a1 := Y5.pb.c 1 rfl
      have a2 := Y5.pb.c 2 rfl
      have b0 := K5.out.drew.c 0 rfl
      have b1 := K5.out.drew.c 1 rfl
      have b2 := K5.out.drew.c 2 rfl
      go_wp2_with fail
      go_region_with (first | (go_at_call 31; ((with_reducible refine (toRule_any A0 xs0.length c0 xs0 a ch _ (RS.rt (by with_reducible assumption)) hn0).mono ?_); rintro e w6 ⟨B6, d6, rfl, r6, hb6⟩; have Y6 := Y5.below hb6; have Q6 := Q5.below hb6; have k0 := (K5.out.drew.below hb6).c 0 rfl; have k1 := (K5.out.drew.below hb6).c 1 rfl; have k2 := (K5.out.drew.below hb6).c 2 rfl; clear hb6)) | (go_at_call 33; ((with_reducible refine (eqRule_same _ _ _ _ _ xs0 a ch _ Q6 r6).mono ?_); rintro e w7 ⟨rfl, hb7⟩; have Y7 := Y6.below hb7; clear hb7)))
      all_goals
        go_wp2
        go_meet
        exact ⟨rfl, Y7.hb⟩
    case rest =>
      obtain ⟨rfl, hbz⟩ := hcut
      go_wp2
      go_ret
      exact ⟨rfl, hbz⟩
  · have hz1 : szF 1048576 xs0.length = -1 := by unfold szF; rw [if_pos (by omega)]
    rw [hz1] at CZ
    clear hmax0 hz1
    go_enter Tryd.func7, Tryd.ntmps7
    go_wp2_with fail
    refine (CZ.out _).mono ?_
    rintro e w1 ⟨rfl, hb1⟩
    have X1 := Lib.hid (X0.out.below hb1)
    clear hb1
    go_wp2
    go_ret
    exact ⟨rfl, X1.out.hb⟩
end Go.Proofs.YtoapnjlpmjcloaaDoor
