/-
  WALK: spec.DrawPacketField: it answers some packet and a number from -1 to 4.
-/
import Derived.Test.YtoapnjlpmjcloaaDoorDrPk
namespace Go.Proofs.YtoapnjlpmjcloaaDoor
open Go.ChangeShapes Go.WideShapes Go.ChangeAt Go.RowKit Go.Sort Pf

def DrawnPktN (w : World) (e : Ending) (w' : World) : Prop := ∃ a b c d m : Int, e = .returned (.tuple #[.agg #[.int .i64 a, .int .i64 b, .int .i64 c, .int .i64 d], .int .i64 m]) ∧ (-1 ≤ m ∧ m ≤ 4) ∧ Below w.heap.size w w'

/-- Result in block R, packet in block S, reader in block g. -/
structure PfSt (w : World) (g f R S : Nat) (rs vs : List Value) (wx : World) : Prop where
  hb : Below w.heap.size w wx
  rdr : Rdr wx g f
  rb : Blk wx R rs
  sb : Blk wx S vs
section
variable {w wx w' : World} {g f R S : Nat} {rs vs : List Value}
theorem PfSt.drew (h : PfSt w g f R S rs vs wx) : PfSt w g f R S rs vs wx.drew := ⟨below_drewN h.hb 1, h.rdr.drew, h.rb.drew, h.sb.drew⟩
theorem PfSt.pick {n : Nat} (h : PfSt w g f R S rs vs wx) (hg : wx.grownBy w' (some g)) (hr : Rdr w' g n) (hgw : w.heap.size ≤ g ∧ g ≠ R ∧ g ≠ S) : PfSt w g n R S rs vs w' :=
  ⟨h.hb.grown hg h.hb.size (fun k hk => by cases hk; exact hgw.1), hr, h.rb.grown hg (by have := hgw.2.1; simpa using this), h.sb.grown hg (by have := hgw.2.2; simpa using this)⟩
end

set_option maxHeartbeats 2000000 in
theorem drawPacketField_any (A : Option Addr) (n c : Nat) (zs : List Int) (w : World) (h : Rb w A n c zs) :
    Calls Tryd.prog 14 #[.slice A n c] w (DrawnPktN w) := by
  have hb0 := Lib.hid (below_one w (.cells #[.int .i64 0, .int .i64 0, .int .i64 0, .int .i64 0] 24))
  have CO := Lib.hid (open_any A n c zs _ (h.below hb0.out))
  have K0 := Lib.hid (Blk.new w #[.int .i64 0, .int .i64 0, .int .i64 0, .int .i64 0] 24)
  clear h
  go_enter Tryd.func14, Tryd.ntmps14
  go_wp2_with fail
  refine (CO.out).mono ?_
  rintro e w1 ⟨g, rfl, hg, hr, hb⟩
  simp only [World.size_alloc] at hg
  have HB := Lib.hid (chain hb0.out hb hb0.out.size)
  have K1 := Lib.hid (K0.out.below hb)
  have HR := Lib.hid (hr.less (show 14 ≤ 1000000 by omega))
  clear hb hr CO K0
  go_wp2_with fail
  refine (drPacket_any g 1 9 _ (by omega) (by omega) HR.out).mono ?_
  rintro e w2 ⟨a, b, c, d, rfl, hg2, hr2⟩
  have hx := below_one w2 (.cells #[.int .i64 a, .int .i64 b, .int .i64 c, .int .i64 d] 24)
  have H2 := HB.out.grown hg2 HB.out.size (fun k hk => by cases hk; omega)
  have H := Lib.hid (chain H2 hx H2.size)
  have hgs := hr2.lt
  have K2 := Lib.hid ((K1.out.grown hg2 (by simp; omega)).below hx)
  have P2 := Lib.hid (Blk.new w2 #[.int .i64 a, .int .i64 b, .int .i64 c, .int .i64 d] 24)
  have R2 := Lib.hid (hr2.alloc (.cells #[.int .i64 a, .int .i64 b, .int .i64 c, .int .i64 d] 24))
  clear hg2 hr2 HB HR K1 hx H2
  go_upto_region 3 with fail
  generalize w2.alloc (.cells #[.int .i64 a, .int .i64 b, .int .i64 c, .int .i64 d] 24) = W at *
  have S0 : PfSt w g 1 w.heap.size w2.heap.size _ _ W := ⟨H.out, R2.out, K2.out, P2.out⟩
  have hgw : w.heap.size ≤ g ∧ g ≠ w.heap.size ∧ g ≠ w2.heap.size := ⟨by omega, by omega, by omega⟩
  have S1 := S0.drew
  have R1 := S1.rdr
  have s0 := S1.sb.c 0 rfl
  have r0 := S1.rb.c 0 rfl
  have q0 := S1.rb.f 0 rfl
  have s1 := S1.sb.c 1 rfl
  have r1 := S1.rb.c 1 rfl
  have q1 := S1.rb.f 1 rfl
  have s2 := S1.sb.c 2 rfl
  have r2 := S1.rb.c 2 rfl
  have q2 := S1.rb.f 2 rfl
  have s3 := S1.sb.c 3 rfl
  have r3 := S1.rb.c 3 rfl
  have q3 := S1.rb.f 3 rfl
  clear S0 H K2 P2 R2
  go_region_with (go_at_call 61; ((with_reducible refine (pick_any g _ 0 6 _ (by with_reducible assumption) (by omega)).mono ?_); intro e w4 hp; obtain ⟨v, rfl, hv0, hv1, hg4, hr4⟩ := picked_lt (by omega) hp; clear hp; have S4 := PfSt.pick (by with_reducible assumption) hg4 hr4 hgw; have t0 := S4.sb.c 0 rfl; have u0 := S4.rb.c 0 rfl; have y0 := S4.rb.f 0 rfl; have t1 := S4.sb.c 1 rfl; have u1 := S4.rb.c 1 rfl; have y1 := S4.rb.f 1 rfl; have t2 := S4.sb.c 2 rfl; have u2 := S4.rb.c 2 rfl; have y2 := S4.rb.f 2 rfl; have t3 := S4.sb.c 3 rfl; have u3 := S4.rb.c 3 rfl; have y3 := S4.rb.f 3 rfl; clear hg4 hr4))
  all_goals
    have hw : IntKind.i64.wrap (v - 1) = v - 1 := IntWalk.i64_in _ (by omega)
    have HZ := Lib.hid S4.hb
    clear S1 R1 S4 s0 s1 s2 s3 r0 r1 r2 r3 q0 q1 q2 q3
    go_wp2
    refine bodyPost_ret (v := .tuple #[.agg #[.int .i64 a, .int .i64 b, .int .i64 c, .int .i64 d], .int .i64 (v - 1)]) (by simp [results, Tryd.results14, go_sem, hw, u0, u1, u2, u3]) rfl ⟨a, b, c, d, v - 1, rfl, ⟨by omega, by omega⟩, ?_⟩
    exact below_put4 HZ.out (Nat.le_refl _) _ _ _ _
end Go.Proofs.YtoapnjlpmjcloaaDoor
