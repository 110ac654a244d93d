/-
  THE WALK of the law FnExactRulesValid.
-/
import Derived.Test.YtoapnjlpmjcloaaDoorRules
import Derived.Test.YtoapnjlpmjcloaaDoorSzRuleS
import Derived.Test.YtoapnjlpmjcloaaDoorToRuleS
import Derived.Test.YtoapnjlpmjcloaaDoorEqRuleS
namespace Go.Proofs.YtoapnjlpmjcloaaDoor
open Go.ChangeShapes Go.WideShapes Go.ChangeAt Go.RowKit Go.Sort Pf
set_option maxRecDepth 20000

theorem rvs_as {P : Program} {F : FuncId} {args : Array Value} {w : World} {a b : Bool} (e : a = b) (h : Calls P F args w fun e w' => e = .returned (.bool a) ∧ Below w.heap.size w w') : Calls P F args w fun e w' => e = .returned (.bool b) ∧ Below w.heap.size w w' := e ▸ h

set_option maxHeartbeats 2000000 in
theorem walkFnExactRulesValid (A0 : Option Addr) (n0 c0 : Nat) (rs0 : List Rul) (w : World) (hT : Tab w) (h0 : Rr w A0 n0 c0 rs0) :
    Calls Tryd.prog 11 #[.slice A0 n0 c0] w fun e w' => e = .returned (.bool true) ∧ Below w.heap.size w w' := by
  obtain rfl : rs0.length = n0 := h0.len
  have HT := Lib.hid (fun W (hW : Below w.heap.size w W) => hT.below hW)
  have R0 := Lib.hid h0
  obtain ⟨v, hv⟩ : ∃ v, rvsB rs0 = v := ⟨_, rfl⟩
  have HV := Lib.hid (fun (ts : List Rul) (h : ts.map Rul.key = rs0.map Rul.key) => (rvs_key h).trans hv)
  have hne : (v != v) = false := by simp
  have CZ := Lib.hid (szRuleS_any A0 rs0.length c0 rs0 _ h0)
  clear hT h0 hv
  go_enter Tryd.func11, Tryd.ntmps11
  go_wp2_with fail
  refine (CZ.out).mono ?_
  rintro e w0 ⟨⟨z, rfl, hz⟩, hb0⟩
  have H := Lib.hid hb0
  replace R0 := Lib.hid (R0.out.below hb0)
  clear hb0 CZ
  rcases hz with rfl | ⟨hz0, hn0, hm⟩
  · go_wp2
    go_ret
    exact ⟨rfl, H.out⟩
  · have HM := Lib.hid hm
    have hzl : ¬ z < 0 := by omega
    clear hm
    go_wp2_with fail
    refine (toRuleS_any A0 rs0.length c0 rs0 _ R0.out hn0 HM.out).mono ?_
    rintro e w1 ⟨B1, d1, ts1, rfl, r1, k1, hb1⟩
    replace H := Lib.hid (chain H.out hb1 H.out.size)
    replace R0 := Lib.hid (R0.out.below hb1)
    have R1 := Lib.hid r1
    have K1 := Lib.hid k1
    clear hb1 r1 k1
    go_wp2_with fail
    refine (rvs_as (HV.out _ K1.out) (sRulesValid_any _ _ _ ts1 _ R1.out)).mono ?_
    rintro e w2 ⟨rfl, hb2⟩
    replace H := Lib.hid (chain H.out hb2 H.out.size)
    replace R0 := Lib.hid (R0.out.below hb2)
    clear hb2 R1 K1
    go_wp2_with fail
    refine (toRuleS_any A0 rs0.length c0 rs0 _ R0.out hn0 HM.out).mono ?_
    rintro e w3 ⟨B3, d3, ts3, rfl, r3, k3, hb3⟩
    replace H := Lib.hid (chain H.out hb3 H.out.size)
    replace R0 := Lib.hid (R0.out.below hb3)
    have R1 := Lib.hid r3
    have K1 := Lib.hid k3
    clear hb3 r3 k3
    go_wp2_with fail
    refine (rvs_as (HV.out _ K1.out) (iRulesValid_any _ _ _ ts3 _ R1.out (HT.out _ H.out))).mono ?_
    rintro e w4 ⟨rfl, hb4⟩
    replace H := Lib.hid (chain H.out hb4 H.out.size)
    replace R0 := Lib.hid (R0.out.below hb4)
    replace R1 := Lib.hid (R1.out.below hb4)
    clear hb4
    go_wp2_with fail
    refine (toRuleS_any A0 rs0.length c0 rs0 _ R0.out hn0 HM.out).mono ?_
    rintro e w5 ⟨B5, d5, ts5, rfl, r5, k5, hb5⟩
    replace H := Lib.hid (chain H.out hb5 H.out.size)
    replace R1 := Lib.hid (R1.out.below hb5)
    have R5 := Lib.hid r5
    have K5 := Lib.hid k5
    clear hb5 r5 k5
    go_wp2_with fail
    refine (eqRuleS_same _ _ _ _ _ ts3 ts5 _ R1.out R5.out (K1.out.trans K5.out.symm)).mono ?_
    rintro e w6 ⟨rfl, hb6⟩
    replace H := Lib.hid (chain H.out hb6 H.out.size)
    clear hb6
    go_wp2
    go_ret
    exact ⟨rfl, H.out⟩
end Go.Proofs.YtoapnjlpmjcloaaDoor
