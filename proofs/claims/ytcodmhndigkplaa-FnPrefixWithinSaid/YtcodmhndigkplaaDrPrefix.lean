/-
  WALK: spec.l20Prefix: it answers some prefix.
-/
import Derived.Test.YtcodmhndigkplaaDrSt
import Derived.BigRegion
namespace Go.Proofs.Ytcodmhndigkplaa
open Go.ChangeShapes Go.WideShapes Go.ChangeAt Go.RowKit Go.Sort Pf
set_option maxRecDepth 20000

/-- Only the result's block is there yet. -/
structure RSt (w : World) (g f R : Nat) (wx : World) : Prop where
  out : w.grownBy wx (some g) ∧ Rdr wx g f ∧ w.heap.size ≤ R ∧ R < wx.heap.size ∧ wx.cell? ⟨R, 0, none⟩ = some (.int .i64 0) ∧ wx.cell? ⟨R, 1, none⟩ = some (.int .i64 0) ∧ wx.frozen? ⟨R, 0, none⟩ = false ∧ wx.frozen? ⟨R, 1, none⟩ = false
theorem RSt.start {w : World} {g f : Nat} {t : TypeId} (h : Rdr w g f) : RSt w g f w.heap.size (w.alloc (.cells #[.int .i64 0, .int .i64 0] t)) :=
  ⟨below_grown (below_one w _), h.alloc _, Nat.le_refl _, by simp, by go_cell, by go_cell, by go_simp, by go_simp⟩
theorem RSt.pick {w wx w' : World} {g f R n : Nat} (h : RSt w g f R wx) (hg : wx.grownBy w' (some g)) (hr : Rdr w' g n) (hgw : g < w.heap.size) : RSt w g n R w' := by
  obtain ⟨a1, a2, a3, a4, b0, b1, b2, b3⟩ := h.out
  have n1 : (some g : Option Nat) ≠ some R := by simp; omega
  exact ⟨grownBy_trans a1 hg, hr, a3, Nat.lt_of_lt_of_le a4 hg.size, grown_cell hg b0 n1, grown_cell hg b1 n1, grown_free hg b0 b2 n1, grown_free hg b1 b3 n1⟩
theorem RSt.alloc {w wx : World} {g f R : Nat} (h : RSt w g f R wx) (o : Obj) : RSt w g f R (wx.alloc o) := by
  obtain ⟨a1, a2, a3, a4, b0, b1, b2, b3⟩ := h.out
  have k := below_one wx o
  exact ⟨grownBy_trans a1 (below_grown k), a2.below k, a3, Nat.lt_of_lt_of_le a4 k.size, keepCell k b0, keepCell k b1, keepFree k b0 b2, keepFree k b1 b3⟩
theorem RSt.rdr {w wx : World} {g f R : Nat} (h : RSt w g f R wx) : Rdr wx g f := h.out.2.1
theorem RSt.toSp {w wx : World} {g f R : Nat} (h : RSt w g f R wx) (x y : Int) (t : TypeId) : SpSt w g f R wx.heap.size x y (wx.alloc (.cells #[.int .i64 x, .int .i64 y] t)) := by
  obtain ⟨a1, a2, a3, a4, b0, b1, b2, b3⟩ := (h.alloc (.cells #[.int .i64 x, .int .i64 y] t)).out
  exact ⟨a1, a2, a3, h.out.2.2.2.1, by simp, b0, b1, b2, b3, by go_cell, by go_cell, by go_simp, by go_simp⟩
/-- An element of a list of numbers that was laid just before a pick. -/
theorem lit_new {w3 w2 : World} {g F k : Nat} (cs : List Int) {t : TypeId} (hg : (w3.alloc (.cells (cs.map (Value.int .i64)).toArray t)).grownBy w2 (some g)) (hr : Rdr w3 g F) (hk : k < cs.length) : ∃ x, x ∈ cs ∧ w2.cell? ⟨w3.heap.size, k, none⟩ = some (.int .i64 x) := by
  refine ⟨cs[k], List.getElem_mem hk, grown_cell hg ?_ (by have := hr.lt; simp; omega)⟩
  simp [hk]

/-- 'odd', and for 0 it is false. -/
def Odded0 (g f : Nat) (n : Int) (w : World) (e : Ending) (w' : World) : Prop := ∃ v : Bool, e = .returned (.bool v) ∧ (n = 0 → v = false) ∧ w.grownBy w' (some g) ∧ Rdr w' g f
set_option maxHeartbeats 400000 in
theorem odd_any0 (g f : Nat) (n : Int) (w : World) (hn0 : 0 ≤ n) (hn1 : n ≤ 1000) (h : Rdr w g (f + 1)) :
    Calls Try.prog 72 #[.pointer (some ⟨g, 0, none⟩), .int .i64 n] w (Odded0 g f n w) := by
  by_cases hz : n = 0
  · subst hz
    have HR := Lib.hid (h.less (show f ≤ f + 1 by omega))
    clear h
    go_enter Try.func72, Try.ntmps72
    go_wp2
    go_ret
    exact ⟨false, rfl, fun _ => rfl, below_grown (Below.refl _ _), HR.out⟩
  · exact (odd_any g f n w hn0 hn1 h).mono fun e w' ⟨v, he, hg, hr⟩ => ⟨v, he, fun h => absurd h hz, hg, hr⟩
/-- A drawn prefix; one drawn with 0 has a length in 0..16. -/
def DrewPfx (g f : Nat) (n : Int) (w : World) (e : Ending) (w' : World) : Prop := ∃ lo hi : Int, e = .returned (.agg #[.int .i64 lo, .int .i64 hi]) ∧ (n = 0 → 0 ≤ hi ∧ hi ≤ 16) ∧ w.grownBy w' (some g) ∧ Rdr w' g f

set_option maxHeartbeats 1000000 in
theorem drPrefix_any0 (g f : Nat) (n : Int) (w : World) (hn0 : 0 ≤ n) (hn1 : n ≤ 1000) (h : Rdr w g (f + 9)) :
    Calls Try.prog 51 #[.pointer (some ⟨g, 0, none⟩), .int .i64 n] w (DrewPfx g f n w) := by
  have hgw := h.lt
  have HR := Lib.hid (RSt.start (t := 24) h)
  clear h
  go_enter Try.func51, Try.ntmps51
  go_upto_region 1 with fail
  go_cut [5] (fun s5 wx => ∃ (S : Nat) (len : Int), s5 = .pointer (some ⟨S, 0, none⟩) ∧ 0 ≤ len ∧ len ≤ 16 ∧ SpSt w g (f + 6) w.heap.size S 0 len wx)
  case first =>
    go_wp2_with fail
    refine (pick_any g _ (f + 8) 9 _ HR.out.rdr rfl).mono ?_
    intro e w1 hp
    obtain ⟨a, rfl, ha0, ha1, hg1, hr1⟩ := picked_lt (by omega) hp
    clear hp
    have S1 := Lib.hid (HR.out.pick hg1 hr1 hgw)
    clear hg1 hr1 HR
    go_wp2_with fail
    refine (pick_any g _ (f + 7) 17 _ S1.out.rdr rfl).mono ?_
    intro e w2 hp
    obtain ⟨b, rfl, hb0, hb1, hg2, hr2⟩ := picked_lt (by omega) hp
    clear hp
    have S2 := Lib.hid (S1.out.pick hg2 hr2 hgw)
    clear hg2 hr2 S1
    go_wp2_with fail
    refine (pick_any g _ (f + 6) 3 _ (S2.out.alloc _).rdr rfl).mono ?_
    intro e w3 hp
    obtain ⟨v, rfl, hv0, hv1, hg3, hr3⟩ := picked_lt (by omega) hp
    clear hp
    obtain ⟨k, rfl⟩ := Int.eq_ofNat_of_zero_le hv0
    have hk3 : k < 3 := by omega
    obtain ⟨x, hx, hcell⟩ := lit_new [16, 8 + a, b] hg3 S2.out.rdr hk3
    have hxb : 0 ≤ x ∧ x ≤ 16 := by
      simp only [List.mem_cons, List.not_mem_nil, or_false] at hx
      rcases hx with rfl | rfl | rfl <;> omega
    obtain ⟨hx0, hx1⟩ := hxb
    have S3 := Lib.hid ((S2.out.alloc _).pick hg3 hr3 hgw)
    clear hg3 hr3 S2 hx
    go_wp2
    go_meet
    exact ⟨_, x, rfl, hx0, hx1, S3.out.toSp 0 x _⟩
  case rest =>
    obtain ⟨S, len, rfl, hl0, hl1, st⟩ := hcut
    have ST := Lib.hid st
    clear HR st
    go_upto_region 2 with fail
    go_cut [] (fun wx => ∃ base : Int, 0 ≤ base ∧ base ≤ 65535 ∧ SpSt w g (f + 3) w.heap.size S base len wx)
    case first =>
      go_wp2_with fail
      refine (pick_any g _ (f + 5) 4 _ ST.out.rdr rfl).mono ?_
      intro e w1 hp
      obtain ⟨a, rfl, ha0, ha1, hg1, hr1⟩ := picked_lt (by omega) hp
      clear hp
      have S1 := Lib.hid (ST.out.pick hg1 hr1 hgw)
      clear hg1 hr1 ST
      go_wp2_with fail
      refine (pick_any g _ (f + 4) 256 _ S1.out.rdr rfl).mono ?_
      intro e w2 hp
      obtain ⟨b, rfl, hb0, hb1, hg2, hr2⟩ := picked_lt (by omega) hp
      clear hp
      have S2 := Lib.hid (S1.out.pick hg2 hr2 hgw)
      clear hg2 hr2 S1
      go_wp2_with fail
      refine (pick_any g _ (f + 3) 2 _ (S2.out.alloc _).rdr rfl).mono ?_
      intro e w3 hp
      obtain ⟨v, rfl, hv0, hv1, hg3, hr3⟩ := picked_lt (by omega) hp
      clear hp
      obtain ⟨k, rfl⟩ := Int.eq_ofNat_of_zero_le hv0
      have hk3 : k < 2 := by omega
      obtain ⟨x, hx, hcell⟩ := lit_new [1, 64] hg3 S2.out.rdr hk3
      have hxb : 0 ≤ b * x ∧ b * x ≤ 16384 := by
        simp only [List.mem_cons, List.not_mem_nil, or_false] at hx
        rcases hx with rfl | rfl <;> omega
      obtain ⟨hx0, hx1⟩ := hxb
      have S3 := (S2.out.alloc _).pick hg3 hr3 hgw
      have c0 := S3.c0
      have c2 := S3.c2
      have S3 := Lib.hid S3
      clear hg3 hr3 S2 hx
      go_wp2
      go_meet
      exact ⟨_, by omega, by omega, S3.out.setLo hgw _⟩
    case rest =>
      obtain ⟨base, hb0, hb1, st⟩ := hcut
      go_upto_region 3 with fail
      go_cut [] (fun wx => ∃ base : Int, SpSt w g (f + 3) w.heap.size S base len wx)
      case first =>
        have c0 := st.c0
        have c1 := st.c1
        have c2 := st.c2
        have ST := Lib.hid st
        have hs : IntKind.i64.wrap (16 - len) = 16 - len := IntWalk.i64_in _ (by omega)
        have hs0 : 0 ≤ 16 - len := by omega
        clear st
        go_region
        go_wp2
        go_meet
        first | exact ⟨_, (ST.out.setLo hgw _).drewN 1⟩ | exact ⟨_, (ST.out.drewN 1).setLo hgw _⟩
      case rest =>
        obtain ⟨base, st⟩ := hcut
        go_wp2_with fail
        refine (odd_any0 g (f + 2) n _ hn0 hn1 st.rdr).mono ?_
        intro e w2 hp
        obtain ⟨c, rfl, hcz, hg1, hr1⟩ := hp
        have HCZ := Lib.hid hcz
        clear hcz
        have st2 := Lib.hid (st.pick hg1 hr1 hgw)
        clear hg1 hr1 st
        go_upto_if 44 with fail
        go_cut [] (fun wx => ∃ x y : Int, (n = 0 → 0 ≤ y ∧ y ≤ 16) ∧ SpSt w g f w.heap.size S x y wx)
        case first =>
          cases c with
          | false =>
            go_wp2
            go_meet
            exact ⟨_, _, fun _ => ⟨hl0, hl1⟩, st2.out.less (by omega)⟩
          | true =>
            go_wp2_with fail
            refine (pick_any g _ (f + 1) 3 _ st2.out.rdr rfl).mono ?_
            intro e w3 hp
            obtain ⟨v, rfl, hv0, hv1, hg3, hr3⟩ := picked_lt (by omega) hp
            clear hp
            have S3 := Lib.hid (st2.out.pick hg3 hr3 hgw)
            clear hg3 hr3 st2
            by_cases h0 : v = 0
            · have hb : (v == 0) = true := by simpa using h0
              clear h0
              go_wp2_with fail
              refine (pick_any g _ f 2 _ (S3.out.alloc _).rdr rfl).mono ?_
              intro e w4 hp
              obtain ⟨u, rfl, hu0, hu1, hg4, hr4⟩ := picked_lt (by omega) hp
              clear hp
              obtain ⟨k, rfl⟩ := Int.eq_ofNat_of_zero_le hu0
              have hk2 : k < 2 := by omega
              obtain ⟨x, hx, hcell⟩ := lit_new [-1, 17] hg4 S3.out.rdr hk2
              have S4 := (S3.out.alloc _).pick hg4 hr4 hgw
              have c1 := S4.c1
              have c3 := S4.c3
              have S4 := Lib.hid S4
              clear hg4 hr4 S3 hx
              go_wp2
              go_meet
              exact ⟨_, _, fun hz => absurd (HCZ.out hz) (by simp), S4.out.setHi hgw _⟩
            · have hb : (v == 0) = false := by simpa using h0
              by_cases h1 : v = 1
              · have hb1 : (v == 1) = true := by simpa using h1
                clear h0 h1
                go_upto_region 10 with fail
                have ST : SpSt w g (f + 1) w.heap.size S base len w3.drew := S3.out.drewN 1
                have d0 := S3.out.c0
                have d1 := S3.out.c1
                have d2 := S3.out.c2
                have d3 := S3.out.c3
                have R1 := ST.rdr
                go_region_with (go_at_call 59; ((with_reducible refine (pick_any g _ f 16 _ (by with_reducible assumption) (by omega)).mono ?_); intro e w4 hp; obtain ⟨u, rfl, hu0, hu1, hg4, hr4⟩ := hp; have S4 := SpSt.pick (by with_reducible assumption) hg4 hr4 hgw; have e0 := S4.c0; have e1 := S4.c1; have e2 := S4.c2; have e3 := S4.c3; clear hg4 hr4))
                all_goals
                  go_wp2
                  go_meet
                  exact ⟨_, _, fun hz => absurd (HCZ.out hz) (by simp), (S4.setLo hgw _).setHi hgw _⟩
              · have hb1 : (v == 1) = false := by simpa using h1
                clear h0 h1
                go_wp2_with fail
                refine (pick_any g _ f 2 _ (S3.out.alloc _).rdr rfl).mono ?_
                intro e w4 hp
                obtain ⟨u, rfl, hu0, hu1, hg4, hr4⟩ := picked_lt (by omega) hp
                clear hp
                obtain ⟨k, rfl⟩ := Int.eq_ofNat_of_zero_le hu0
                have hk2 : k < 2 := by omega
                obtain ⟨x, hx, hcell⟩ := lit_new [-1, 65536] hg4 S3.out.rdr hk2
                have S4 := (S3.out.alloc _).pick hg4 hr4 hgw
                have c0 := S4.c0
                have c2 := S4.c2
                have S4 := Lib.hid S4
                clear hg4 hr4 S3 hx
                go_wp2
                go_meet
                exact ⟨_, _, fun hz => absurd (HCZ.out hz) (by simp), S4.out.setLo hgw _⟩
        case rest =>
          obtain ⟨x, y, hy, st⟩ := hcut
          have HY := Lib.hid hy
          clear hy
          have d0 := st.c0
          have d1 := st.c1
          obtain ⟨s5, b0, b1, b2, b3⟩ := st.b
          have ST := Lib.hid st
          clear st st2
          go_wp2
          refine bodyPost_ret (v := .agg #[.int .i64 x, .int .i64 y]) (by simp [results, Try.results51, go_sem, b0, b1]) rfl ⟨x, y, rfl, HY.out, ?_, ?_⟩
          · exact grown_set (grown_set ST.out.out.1 (by simp)) (by simp)
          · exact (ST.out.rdr.set (by simp only; omega)).set (by simp only; omega)
theorem drPrefix_any (g f : Nat) (n : Int) (w : World) (hn0 : 0 ≤ n) (hn1 : n ≤ 1000) (h : Rdr w g (f + 9)) :
    Calls Try.prog 51 #[.pointer (some ⟨g, 0, none⟩), .int .i64 n] w (DrewSpan g f w) :=
  (drPrefix_any0 g f n w hn0 hn1 h).mono fun _ _ ⟨lo, hi, he, _, hg, hr⟩ => ⟨lo, hi, he, hg, hr⟩
end Go.Proofs.Ytcodmhndigkplaa
