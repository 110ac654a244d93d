/-
  WALKS: (impl.Test).holds, impl.TestHolds, spec.TestHolds: 'thB'.
-/
import Derived.Test.YtoapnjlpmjcloaaDoorTspP
import Derived.Test.YtoapnjlpmjcloaaDoorPkv
import Derived.Test.YtoapnjlpmjcloaaDoorPfl
import Derived.Lib.QuietBelow
namespace Go.Proofs.YtoapnjlpmjcloaaDoor
open Go.ChangeShapes Go.WideShapes Go.ChangeAt Go.RowKit Go.Sort Pf

/-- The boxes of a test and of a packet. -/
structure Boxes (w : World) (b : Nat) (fl lo hi : Int) (nt : Bool) (f t p r : Int) : Prop where
  t0 : w.cell? ⟨b, 0, none⟩ = some (.int .i64 fl)
  t1 : w.cell? ⟨b, 1, none⟩ = some (.int .i64 lo)
  t2 : w.cell? ⟨b, 2, none⟩ = some (.int .i64 hi)
  t3 : w.cell? ⟨b, 3, none⟩ = some (.bool nt)
  p0 : w.cell? ⟨b + 1, 0, none⟩ = some (.int .i64 f)
  p1 : w.cell? ⟨b + 1, 1, none⟩ = some (.int .i64 t)
  p2 : w.cell? ⟨b + 1, 2, none⟩ = some (.int .i64 p)
  p3 : w.cell? ⟨b + 1, 3, none⟩ = some (.int .i64 r)
theorem Boxes.below {w w' : World} {b : Nat} {fl lo hi : Int} {nt : Bool} {f t p r : Int} (h : Boxes w b fl lo hi nt f t p r) (k : Below w.heap.size w w') : Boxes w' b fl lo hi nt f t p r :=
  ⟨keepCell k h.t0, keepCell k h.t1, keepCell k h.t2, keepCell k h.t3, keepCell k h.p0, keepCell k h.p1, keepCell k h.p2, keepCell k h.p3⟩
theorem boxes_new (w : World) (fl lo hi : Int) (nt : Bool) (f t p r : Int) (y z : TypeId) : Boxes ((w.alloc (.cells #[.int .i64 fl, .int .i64 lo, .int .i64 hi, .bool nt] y)).alloc (.cells #[.int .i64 f, .int .i64 t, .int .i64 p, .int .i64 r] z)) w.heap.size fl lo hi nt f t p r :=
  ⟨by go_cell, by go_cell, by go_cell, by go_cell, by go_cell, by go_cell, by go_cell, by go_cell⟩

set_option maxHeartbeats 2000000 in
theorem holds_any (fl lo hi : Int) (nt : Bool) (f t p r : Int) (w : World) (h0 : 0 ≤ fl) (h3 : fl < 4) :
    Calls Tryd.prog 74 #[.agg #[.int .i64 fl, .int .i64 lo, .int .i64 hi, .bool nt], .agg #[.int .i64 f, .int .i64 t, .int .i64 p, .int .i64 r]] w fun e w' => e = .returned (.bool (inR lo (nthF f t p r fl) hi != nt)) ∧ Below w.heap.size w w' := by
  obtain ⟨v, hv⟩ : ∃ v, nthF f t p r fl = v := ⟨_, rfl⟩
  have ix : ∀ w, (Instr.index 82 (.agg #[.int .i64 f, .int .i64 t, .int .i64 p, .int .i64 r]) (.int .i64 fl)).run Tryd.prog w = .ok (.int .i64 v) w := by
    rw [← hv]
    rcases in_four h0 h3 with rfl | rfl | rfl | rfl <;> (intro w; kernel_rfl)
  rw [hv]
  clear hv h0 h3
  have hb := Lib.hid (below_two w (.cells #[.int .i64 fl, .int .i64 lo, .int .i64 hi, .bool nt] 32) (.cells #[.int .i64 f, .int .i64 t, .int .i64 p, .int .i64 r] 24))
  have BX := Lib.hid (boxes_new w fl lo hi nt f t p r 32 24)
  obtain ⟨b, hbv⟩ : ∃ b, inR lo v hi = b := ⟨_, rfl⟩
  have hq : ∀ g1 g2 : Bool, decide (lo ≤ v) = g1 → decide (v ≤ hi) = g2 → b = (g1 && g2) := fun g1 g2 e1 e2 => by rw [← hbv, ← e1, ← e2]; rfl
  rw [hbv]
  clear hbv
  cases e1 : decide (lo ≤ v) with
  | false =>
    obtain rfl : b = false := hq false _ e1 rfl
    clear hq
    go_enter Tryd.func74, Tryd.ntmps74
    go_wp2_with fail
    generalize (w.alloc (.cells #[.int .i64 fl, .int .i64 lo, .int .i64 hi, .bool nt] 32)).alloc (.cells #[.int .i64 f, .int .i64 t, .int .i64 p, .int .i64 r] 24) = W at hb BX ⊢
    obtain ⟨a0, a1, a2, a3, b0, b1, b2, b3⟩ := BX.out
    have k0 := cell_regrown a0
    have k4 := cell_regrown b0
    have k5 := cell_regrown b1
    have k6 := cell_regrown b2
    have k7 := cell_regrown b3
    have cF := Lib.hid (fun d os => Calls.regrown_of (fields_any f t p r (grow (redrawn W d) os)))
    clear a0 a1 a2 a3 b0 b1 b2 b3
    refine wp_region_quiet_below (by kernel_rfl) (by kernel_rfl) ?_
    repeat (quiet_step ((go_at_call 62; exact cF.out _ _)))
    refine wpQuiet_nil ?_
    intro _ hw'
    obtain ⟨⟨dq, osq⟩, hw''⟩ := hw'
    subst hw''
    have H2 := Lib.hid (chain hb.out (below_regrown W dq osq) hb.out.size)
    obtain ⟨a0, a1, a2, a3, b0, b1, b2, b3⟩ := BX.out.below (below_regrown W dq osq)
    clear k0 k4 k5 k6 k7 cF b0 b1 b2 b3
    dsimp only
    generalize grow (redrawn W dq) osq = V at *
    go_wp2
    go_ret
    exact ⟨ret_bool (by cases nt <;> rfl), H2.out⟩
  | true =>
    cases e2 : decide (v ≤ hi) with
    | false =>
      obtain rfl : b = false := hq true false e1 e2
      clear hq
      go_enter Tryd.func74, Tryd.ntmps74
      go_wp2_with fail
      generalize (w.alloc (.cells #[.int .i64 fl, .int .i64 lo, .int .i64 hi, .bool nt] 32)).alloc (.cells #[.int .i64 f, .int .i64 t, .int .i64 p, .int .i64 r] 24) = W at hb BX ⊢
      obtain ⟨a0, a1, a2, a3, b0, b1, b2, b3⟩ := BX.out
      have k0 := cell_regrown a0
      have k4 := cell_regrown b0
      have k5 := cell_regrown b1
      have k6 := cell_regrown b2
      have k7 := cell_regrown b3
      have cF := Lib.hid (fun d os => Calls.regrown_of (fields_any f t p r (grow (redrawn W d) os)))
      clear a0 a1 a2 a3 b0 b1 b2 b3
      refine wp_region_quiet_below (by kernel_rfl) (by kernel_rfl) ?_
      repeat (quiet_step ((go_at_call 62; exact cF.out _ _)))
      refine wpQuiet_nil ?_
      intro _ hw'
      obtain ⟨⟨dq, osq⟩, hw''⟩ := hw'
      subst hw''
      have H2 := Lib.hid (chain hb.out (below_regrown W dq osq) hb.out.size)
      obtain ⟨a0, a1, a2, a3, b0, b1, b2, b3⟩ := BX.out.below (below_regrown W dq osq)
      clear k0 k4 k5 k6 k7 cF b0 b1 b2 b3
      dsimp only
      generalize grow (redrawn W dq) osq = V at *
      go_wp2
      go_ret
      exact ⟨ret_bool (by cases nt <;> rfl), H2.out⟩
    | true =>
      obtain rfl : b = true := hq true true e1 e2
      clear hq
      go_enter Tryd.func74, Tryd.ntmps74
      go_wp2_with fail
      generalize (w.alloc (.cells #[.int .i64 fl, .int .i64 lo, .int .i64 hi, .bool nt] 32)).alloc (.cells #[.int .i64 f, .int .i64 t, .int .i64 p, .int .i64 r] 24) = W at hb BX ⊢
      obtain ⟨a0, a1, a2, a3, b0, b1, b2, b3⟩ := BX.out
      have k0 := cell_regrown a0
      have k4 := cell_regrown b0
      have k5 := cell_regrown b1
      have k6 := cell_regrown b2
      have k7 := cell_regrown b3
      have cF := Lib.hid (fun d os => Calls.regrown_of (fields_any f t p r (grow (redrawn W d) os)))
      clear a0 a1 a2 a3 b0 b1 b2 b3
      refine wp_region_quiet_below (by kernel_rfl) (by kernel_rfl) ?_
      repeat (quiet_step ((go_at_call 62; exact cF.out _ _)))
      refine wpQuiet_nil ?_
      intro _ hw'
      obtain ⟨⟨dq, osq⟩, hw''⟩ := hw'
      subst hw''
      have H2 := Lib.hid (chain hb.out (below_regrown W dq osq) hb.out.size)
      obtain ⟨a0, a1, a2, a3, b0, b1, b2, b3⟩ := BX.out.below (below_regrown W dq osq)
      clear k0 k4 k5 k6 k7 cF b0 b1 b2 b3
      dsimp only
      generalize grow (redrawn W dq) osq = V at *
      go_wp2
      go_ret
      exact ⟨ret_bool (by cases nt <;> rfl), H2.out⟩

theorem below_of_same {P : Program} {F : FuncId} {args : Array Value} {w : World} {v : Value} (h : Calls P F args w fun e w' => e = .returned v ∧ w' = w) : Calls P F args w fun e w' => e = .returned v ∧ Below w.heap.size w w' :=
  h.mono fun _ _ ⟨he, hw⟩ => ⟨he, hw ▸ Below.refl _ _⟩
theorem th_no1 {fl lo hi f t p r : Int} {nt : Bool} (h : tsB fl lo hi = false) : thB fl lo hi nt f t p r = false := by simp [thB, h]
theorem th_no2 {fl lo hi f t p r : Int} {nt : Bool} (h : pkB f t p r = false) : thB fl lo hi nt f t p r = false := by simp [thB, h]
theorem th_yes {fl lo hi f t p r : Int} {nt : Bool} (h : tsB fl lo hi = true) (h' : pkB f t p r = true) : thB fl lo hi nt f t p r = (inR lo (nthF f t p r fl) hi != nt) := by simp [thB, h, h']

set_option maxHeartbeats 2000000 in
theorem iTestHolds_any (fl lo hi : Int) (nt : Bool) (f t p r : Int) (w : World) (hT : Tab w) :
    Calls Tryd.prog 42 #[.agg #[.int .i64 fl, .int .i64 lo, .int .i64 hi, .bool nt], .agg #[.int .i64 f, .int .i64 t, .int .i64 p, .int .i64 r]] w fun e w' => e = .returned (.bool (thB fl lo hi nt f t p r)) ∧ Below w.heap.size w w' := by
  have hb := Lib.hid (below_two w (.cells #[.int .i64 fl, .int .i64 lo, .int .i64 hi, .bool nt] 32) (.cells #[.int .i64 f, .int .i64 t, .int .i64 p, .int .i64 r] 24))
  have BX := Lib.hid (boxes_new w fl lo hi nt f t p r 32 24)
  have CT := Lib.hid (fun W (hW : Below w.heap.size w W) => hT.below hW)
  have CV := fun W (hW : Below w.heap.size w W) => iTestValid_any fl lo hi nt W (CT.out W hW)
  have CP := fun W (hW : Below w.heap.size w W) => iPacketValid_any f t p r W (CT.out W hW)
  clear hT
  cases h1 : tsB fl lo hi with
  | false =>
    rw [h1] at CV
    have CV := Lib.hid CV
    have HV := Lib.hid (th_no1 (f := f) (t := t) (p := p) (r := r) (nt := nt) h1)
    clear h1 CP
    go_enter Tryd.func42, Tryd.ntmps42
    obtain ⟨a0, a1, a2, a3, b0, b1, b2, b3⟩ := BX.out
    go_wp2_with fail
    refine (CV.out _ hb.out).mono ?_
    rintro e w1 ⟨rfl, hb1⟩
    have H1 := Lib.hid (chain hb.out hb1 hb.out.size)
    clear a0 a1 a2 a3 b0 b1 b2 b3 hb1
    go_wp2
    go_ret
    exact ⟨ret_bool HV.out.symm, H1.out⟩
  | true =>
    rw [h1] at CV
    have CV := Lib.hid CV
    have hfl := (tsB_iff.1 h1).1
    cases h2 : pkB f t p r with
    | false =>
      rw [h2] at CP
      have CP := Lib.hid CP
      have HV := Lib.hid (th_no2 (fl := fl) (lo := lo) (hi := hi) (nt := nt) h2)
      clear h1 h2
      go_enter Tryd.func42, Tryd.ntmps42
      obtain ⟨a0, a1, a2, a3, b0, b1, b2, b3⟩ := BX.out
      go_wp2_with fail
      refine (CV.out _ hb.out).mono ?_
      rintro e w1 ⟨rfl, hb1⟩
      have H1 := Lib.hid (chain hb.out hb1 hb.out.size)
      have B1 := Lib.hid (BX.out.below hb1)
      clear a0 a1 a2 a3 b0 b1 b2 b3 hb1
      obtain ⟨a0, a1, a2, a3, b0, b1, b2, b3⟩ := B1.out
      go_wp2_with fail
      refine (CP.out _ H1.out).mono ?_
      rintro e w2 ⟨rfl, hb2⟩
      have H2 := Lib.hid (chain H1.out hb2 H1.out.size)
      clear a0 a1 a2 a3 b0 b1 b2 b3 hb2
      go_wp2
      go_ret
      exact ⟨ret_bool HV.out.symm, H2.out⟩
    | true =>
      rw [h2] at CP
      have CP := Lib.hid CP
      have HV := Lib.hid (th_yes (nt := nt) h1 h2)
      clear h1 h2
      go_enter Tryd.func42, Tryd.ntmps42
      obtain ⟨a0, a1, a2, a3, b0, b1, b2, b3⟩ := BX.out
      go_wp2_with fail
      refine (CV.out _ hb.out).mono ?_
      rintro e w1 ⟨rfl, hb1⟩
      have H1 := Lib.hid (chain hb.out hb1 hb.out.size)
      have B1 := Lib.hid (BX.out.below hb1)
      clear a0 a1 a2 a3 b0 b1 b2 b3
      obtain ⟨a0, a1, a2, a3, b0, b1, b2, b3⟩ := B1.out
      clear hb1
      go_wp2_with fail
      refine (CP.out _ H1.out).mono ?_
      rintro e w2 ⟨rfl, hb2⟩
      have H2 := Lib.hid (chain H1.out hb2 H1.out.size)
      have B2 := Lib.hid (B1.out.below hb2)
      clear a0 a1 a2 a3 b0 b1 b2 b3 hb2
      obtain ⟨a0, a1, a2, a3, b0, b1, b2, b3⟩ := B2.out
      go_wp2_with fail
      refine (holds_any fl lo hi nt f t p r _ hfl.1 (by omega)).mono ?_
      rintro e w3 ⟨rfl, hb3⟩
      have H3 := Lib.hid (chain H2.out hb3 H2.out.size)
      clear a0 a1 a2 a3 b0 b1 b2 b3 hb3
      go_wp2
      go_ret
      exact ⟨ret_bool HV.out.symm, H3.out⟩
end Go.Proofs.YtoapnjlpmjcloaaDoor
