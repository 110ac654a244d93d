/-
  WALKS: impl.TestSpans, spec.TestSpans: 'tspV'.
-/
import Derived.Test.YtoapnjlpmjcloaaDoorTspans
import Derived.Deep.RegionHeld2
namespace Go.Proofs.YtoapnjlpmjcloaaDoor
open Go.ChangeShapes Go.WideShapes Go.ChangeAt Go.RowKit Go.Sort Pf

/-- A test's box. -/
structure TBox (w : World) (b : Nat) (fl lo hi : Int) (nt : Bool) : Prop where
  t0 : w.cell? ⟨b, 0, none⟩ = some (.int .i64 fl)
  t1 : w.cell? ⟨b, 1, none⟩ = some (.int .i64 lo)
  t2 : w.cell? ⟨b, 2, none⟩ = some (.int .i64 hi)
  t3 : w.cell? ⟨b, 3, none⟩ = some (.bool nt)
theorem TBox.below {w w' : World} {b : Nat} {fl lo hi : Int} {nt : Bool} (h : TBox w b fl lo hi nt) (k : Below w.heap.size w w') : TBox w' b fl lo hi nt := ⟨keepCell k h.t0, keepCell k h.t1, keepCell k h.t2, keepCell k h.t3⟩
theorem tbox_new (w : World) (fl lo hi : Int) (nt : Bool) (t : TypeId) : TBox (w.alloc (.cells #[.int .i64 fl, .int .i64 lo, .int .i64 hi, .bool nt] t)) w.heap.size fl lo hi nt := ⟨by go_cell, by go_cell, by go_cell, by go_cell⟩
theorem tv_bool {P : Program} {F : FuncId} {args : Array Value} {w : World} {a b : Bool} (h : Calls P F args w fun e w' => e = .returned (.bool a) ∧ Below w.heap.size w w') (e : a = b) : Calls P F args w fun e w' => e = .returned (.bool b) ∧ Below w.heap.size w w' := e ▸ h
theorem owns_more {w w1 w2 : World} {t : TypeId} {ys : PS} {e : Ending} (H : Below w.heap.size w w1) (h : Owns t ys w1 e w2) : Owns t ys w e w2 := by
  obtain ⟨A, c, he, own, hb⟩ := h
  exact ⟨A, c, he, own_mono own H.size, chain H hb H.size⟩

set_option maxRecDepth 20000 in
set_option maxHeartbeats 1000000 in
theorem iTestSpans_any (fl lo hi : Int) (nt : Bool) (w : World) (hT : Tab w) :
    Calls Tryd.prog 51 #[.agg #[.int .i64 fl, .int .i64 lo, .int .i64 hi, .bool nt]] w (Owns 87 (tspV fl lo hi nt) w) := by
  have hb := Lib.hid (below_one w (.cells #[.int .i64 fl, .int .i64 lo, .int .i64 hi, .bool nt] 32))
  have BX := Lib.hid (tbox_new w fl lo hi nt 32)
  have HT := Lib.hid (fun W (hW : Below w.heap.size w W) => hT.below hW)
  clear hT
  cases h : tsB fl lo hi with
  | false =>
    rw [tsp_bad h]
    have HV := Lib.hid h
    clear h
    go_enter Tryd.func51, Tryd.ntmps51
    go_wp2_with fail
    refine (tv_bool (iTestValid_any fl lo hi nt _ (HT.out _ hb.out)) HV.out).mono ?_
    rintro e w1 ⟨rfl, hb1⟩
    have H1 := Lib.hid (chain hb.out hb1 hb.out.size)
    clear hb1
    go_wp2
    go_ret
    exact owns_none H1.out
  | true =>
    have HV := Lib.hid h
    have CS := Lib.hid (fun W (hW : Below w.heap.size w W) => spans_any fl lo hi nt W h (HT.out W hW))
    generalize tspV fl lo hi nt = X at CS ⊢
    clear h
    go_enter Tryd.func51, Tryd.ntmps51
    go_wp2_with fail
    refine (tv_bool (iTestValid_any fl lo hi nt _ (HT.out _ hb.out)) HV.out).mono ?_
    rintro e w1 ⟨rfl, hb1⟩
    have H1 := Lib.hid (chain hb.out hb1 hb.out.size)
    have B1 := Lib.hid (BX.out.below hb1)
    clear hb1
    obtain ⟨a0, a1, a2, a3⟩ := B1.out
    go_wp2_with fail
    refine (CS.out _ H1.out).mono ?_
    rintro e w2 ⟨A2, c2, rfl, own2, hb2⟩
    have O2 := Lib.hid own2
    have H2 := Lib.hid (chain H1.out hb2 H1.out.size)
    clear a0 a1 a2 a3 own2 hb2
    go_wp2
    go_ret
    exact ⟨A2, c2, rfl, own_mono O2.out H1.out.size, H2.out⟩

set_option maxRecDepth 20000 in
set_option maxHeartbeats 1000000 in
theorem sTestSpans_any (fl lo hi : Int) (nt : Bool) (w : World) :
    Calls Tryd.prog 53 #[.agg #[.int .i64 fl, .int .i64 lo, .int .i64 hi, .bool nt]] w (Owns 87 (tspV fl lo hi nt) w) := by
  have hb := Lib.hid (below_one w (.cells #[.int .i64 fl, .int .i64 lo, .int .i64 hi, .bool nt] 32))
  have BX := Lib.hid (tbox_new w fl lo hi nt 32)
  cases h : tsB fl lo hi with
  | false =>
    rw [tsp_bad h]
    have HV := Lib.hid h
    clear h
    go_enter Tryd.func53, Tryd.ntmps53
    go_wp2_with fail
    refine (tv_bool (sTestValid_any fl lo hi nt _) HV.out).mono ?_
    rintro e w1 ⟨rfl, hb1⟩
    have H1 := Lib.hid (chain hb.out hb1 hb.out.size)
    clear hb1
    go_wp2
    go_ret
    exact ⟨_, _, rfl, own_mono (World.ownsRow_lit (e := 87) (size := 2) w1 #[] 0 (Nat.le_refl _) (by unfold maxLen; omega) rfl) H1.out.size, H1.out.alloc H1.out.size _⟩
  | true =>
    have HV := Lib.hid h
    obtain ⟨⟨k0, k1⟩, ⟨l0, l1⟩, l2⟩ := tsB_iff.1 h
    obtain ⟨t0, t1⟩ := topF_bd k0 k1
    cases nt with
    | false =>
      rw [tsp_yes h]
      clear h
      go_enter Tryd.func53, Tryd.ntmps53
      go_wp2_with fail
      refine (tv_bool (sTestValid_any fl lo hi false _) HV.out).mono ?_
      rintro e w1 ⟨rfl, hb1⟩
      have H1 := Lib.hid (chain hb.out hb1 hb.out.size)
      have B1 := Lib.hid (BX.out.below hb1)
      have own0 := World.ownsRow_lit (e := 87) (size := 2) w1 #[.int .i64 lo, .int .i64 hi] 1 (Nat.le_refl _) (by unfold maxLen; omega) rfl
      have HO := Lib.hid own0
      clear hb1 own0
      obtain ⟨a0, a1, a2, a3⟩ := B1.out
      have m3 := keepCell (below_one w1 (.cells #[.int .i64 lo, .int .i64 hi] 87)) a3
      go_wp2
      go_ret
      exact ⟨_, _, rfl, own_mono HO.out H1.out.size, H1.out.alloc H1.out.size _⟩
    | true =>
      have hv : tspV fl lo hi true = otherF (topF fl) 0 [(lo, hi)] := by unfold tspV; rw [if_pos h, if_pos rfl]
      rw [hv]
      have hval := tsp_one h
      have CT := fun W => sFieldTop_any fl W
      generalize topF fl = tp at CT hval t0 t1 l2 ⊢
      have CT := Lib.hid CT
      have HVL := Lib.hid hval
      clear h hv hval
      go_enter Tryd.func53, Tryd.ntmps53
      go_wp2_with fail
      refine (tv_bool (sTestValid_any fl lo hi true _) HV.out).mono ?_
      rintro e w1 ⟨rfl, hb1⟩
      have H1 := Lib.hid (chain hb.out hb1 hb.out.size)
      have B1 := Lib.hid (BX.out.below hb1)
      have own0 := World.ownsRow_lit (e := 87) (size := 2) w1 #[.int .i64 lo, .int .i64 hi] 1 (Nat.le_refl _) (by unfold maxLen; omega) rfl
      have HR := Lib.hid (own_rd (xs := [(lo, hi)]) own0)
      clear hb1 own0
      obtain ⟨a0, a1, a2, a3⟩ := B1.out
      have m3 := keepCell (below_one w1 (.cells #[.int .i64 lo, .int .i64 hi] 87)) a3
      have m0 := keepCell (below_one w1 (.cells #[.int .i64 lo, .int .i64 hi] 87)) a0
      go_wp2_with (go_at_call 65; refine (CT.out _).mono ?_; rintro e w' ⟨rfl, hw⟩; have hw2 := hw.symm; subst hw2)
      have hval : validF (-2) tp [(lo, hi)] = true := HVL.out
      refine (l2Other_any _ 1 1 [(lo, hi)] tp _ HR.out (by omega) t0 t1 hval).mono ?_
      rintro e w2 ⟨A2, c2, rfl, own2, hb2⟩
      have O2 := Lib.hid own2
      have HA := Lib.hid (chain H1.out (below_one w1 (.cells #[.int .i64 lo, .int .i64 hi] 87)) H1.out.size)
      have H2 := Lib.hid (chain HA.out hb2 HA.out.size)
      clear own2 hb2
      go_wp2
      go_ret
      exact ⟨A2, c2, rfl, own_mono O2.out HA.out.size, H2.out⟩
end Go.Proofs.YtoapnjlpmjcloaaDoor
