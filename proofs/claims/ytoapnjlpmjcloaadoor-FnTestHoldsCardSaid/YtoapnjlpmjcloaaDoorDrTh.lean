/-
  WALK: spec.DrawTestHolds: it answers some test and some packet.
-/
import Derived.Test.YtoapnjlpmjcloaaDoorDrNear
import Derived.Test.YtoapnjlpmjcloaaDoorDrPk
namespace Go.Proofs.YtoapnjlpmjcloaaDoor
open Go.ChangeShapes Go.WideShapes Go.ChangeAt Go.RowKit Go.Sort Pf
set_option maxRecDepth 20000

def DrawnTestP (w : World) (e : Ending) (w' : World) : Prop := ∃ (a b c : Int) (d : Bool) (x y z u : Int), e = .returned (.tuple #[.agg #[.int .i64 a, .int .i64 b, .int .i64 c, .bool d], .agg #[.int .i64 x, .int .i64 y, .int .i64 z, .int .i64 u]]) ∧ Below w.heap.size w w'
/-- The two results' blocks, the test's box, the reader. -/
structure HTh (w : World) (g f R1 R2 T : Nat) (v1 v2 vt : List Value) (wx : World) : Prop where
  hb : Below w.heap.size w wx
  rdr : Rdr wx g f
  b1 : Blk wx R1 v1
  b2 : Blk wx R2 v2
  bt : Blk wx T vt
  ne : w.heap.size ≤ R1 ∧ w.heap.size ≤ R2 ∧ R1 ≠ R2 ∧ R1 ≠ T ∧ R2 ≠ T ∧ g ≠ R1 ∧ g ≠ R2 ∧ g ≠ T ∧ w.heap.size ≤ g
section
variable {w wx w' : World} {g f R1 R2 T : Nat} {v1 v2 vt : List Value}
theorem HTh.below (h : HTh w g f R1 R2 T v1 v2 vt wx) (k : Below wx.heap.size wx w') : HTh w g f R1 R2 T v1 v2 vt w' := ⟨chain h.hb k h.hb.size, h.rdr.below k, h.b1.below k, h.b2.below k, h.bt.below k, h.ne⟩
theorem HTh.alloc (h : HTh w g f R1 R2 T v1 v2 vt wx) (o : Obj) : HTh w g f R1 R2 T v1 v2 vt (wx.alloc o) := h.below (below_one wx o)
theorem HTh.drew (h : HTh w g f R1 R2 T v1 v2 vt wx) : HTh w g f R1 R2 T v1 v2 vt wx.drew := ⟨below_drewN h.hb 1, h.rdr.drew, h.b1.drew, h.b2.drew, h.bt.drew, h.ne⟩
theorem HTh.pick {n : Nat} (h : HTh w g f R1 R2 T v1 v2 vt wx) (hg : wx.grownBy w' (some g)) (hr : Rdr w' g n) : HTh w g n R1 R2 T v1 v2 vt w' :=
  ⟨h.hb.grown hg h.hb.size (fun k hk => by cases hk; exact h.ne.2.2.2.2.2.2.2.2), hr, h.b1.grown hg (by have := h.ne.2.2.2.2.2.1; simpa using this), h.b2.grown hg (by have := h.ne.2.2.2.2.2.2.1; simpa using this), h.bt.grown hg (by have := h.ne.2.2.2.2.2.2.2.1; simpa using this), h.ne⟩
/-- The same without the reader. -/
structure HTe (w : World) (R1 R2 T : Nat) (v1 v2 vt : List Value) (wx : World) : Prop where
  hb : Below w.heap.size w wx
  b1 : Blk wx R1 v1
  b2 : Blk wx R2 v2
  bt : Blk wx T vt
  ne : w.heap.size ≤ R1 ∧ w.heap.size ≤ R2 ∧ R1 ≠ R2 ∧ R1 ≠ T ∧ R2 ≠ T
theorem HTh.toE (h : HTh w g f R1 R2 T v1 v2 vt wx) : HTe w R1 R2 T v1 v2 vt wx := ⟨h.hb, h.b1, h.b2, h.bt, h.ne.1, h.ne.2.1, h.ne.2.2.1, h.ne.2.2.2.1, h.ne.2.2.2.2.1⟩
theorem HTe.set1 (h : HTe w R1 R2 T v1 v2 vt wx) (j : Nat) (x : Value) : HTe w R1 R2 T (v1.set j x) v2 vt (wx.setCell ⟨R1, j, none⟩ x) :=
  ⟨h.hb.setCell h.ne.1 x, h.b1.set j x, h.b2.other _ _ h.ne.2.2.1, h.bt.other _ _ h.ne.2.2.2.1, h.ne⟩
theorem HTe.set2 (h : HTe w R1 R2 T v1 v2 vt wx) (j : Nat) (x : Value) : HTe w R1 R2 T v1 (v2.set j x) vt (wx.setCell ⟨R2, j, none⟩ x) :=
  ⟨h.hb.setCell h.ne.2.1 x, h.b1.other _ _ (Ne.symm h.ne.2.2.1), h.b2.set j x, h.bt.other _ _ h.ne.2.2.2.2, h.ne⟩
theorem HTe.full {a b c : Int} {d : Bool} (h : HTe w R1 R2 T v1 v2 (ts a b c d) wx) : wx.cell? ⟨T, 0, none⟩ = some (.int .i64 a) ∧ wx.cell? ⟨T, 1, none⟩ = some (.int .i64 b) ∧ wx.cell? ⟨T, 2, none⟩ = some (.int .i64 c) ∧ wx.cell? ⟨T, 3, none⟩ = some (.bool d) := ⟨h.bt.c 0 rfl, h.bt.c 1 rfl, h.bt.c 2 rfl, h.bt.c 3 rfl⟩
theorem HTh.full {a b c : Int} {d : Bool} (h : HTh w g f R1 R2 T v1 v2 (ts a b c d) wx) : wx.cell? ⟨T, 0, none⟩ = some (.int .i64 a) ∧ wx.cell? ⟨T, 1, none⟩ = some (.int .i64 b) ∧ wx.cell? ⟨T, 2, none⟩ = some (.int .i64 c) ∧ wx.cell? ⟨T, 3, none⟩ = some (.bool d) := ⟨h.bt.c 0 rfl, h.bt.c 1 rfl, h.bt.c 2 rfl, h.bt.c 3 rfl⟩
end
theorem Rt.lit {W : World} {t : TypeId} {g : Nat} (hg : g = W.heap.size) (a b c : Int) (d : Bool) : Rt (W.alloc (.cells #[.int .i64 a, .int .i64 b, .int .i64 c, .bool d] t)) (some ⟨g, 0, none⟩) 1 1 [⟨a, b, c, d⟩] := by
  subst hg
  exact Rt.of_own (e := t) (xs := [⟨a, b, c, d⟩]) (World.ownsRow_lit (e := t) (size := 4) W #[.int .i64 a, .int .i64 b, .int .i64 c, .bool d] 1 (Nat.le_refl _) (by unfold maxLen; omega) rfl)

set_option linter.unusedSimpArgs false in
set_option maxHeartbeats 2000000 in
theorem drawTestHolds_any (A : Option Addr) (n c : Nat) (zs : List Int) (w : World) (h : Rb w A n c zs) :
    Calls Tryd.prog 41 #[.slice A n c] w (DrawnTestP w) := by
  have hb0 := Lib.hid (below_two w (.cells #[.int .i64 0, .int .i64 0, .int .i64 0, .bool false] 32) (.cells #[.int .i64 0, .int .i64 0, .int .i64 0, .int .i64 0] 24))
  have CO := Lib.hid (open_any A n c zs _ (h.below hb0.out))
  have K0 := Lib.hid ((Blk.new w #[.int .i64 0, .int .i64 0, .int .i64 0, .bool false] 32).below (below_one _ (.cells #[.int .i64 0, .int .i64 0, .int .i64 0, .int .i64 0] 24)))
  have J0 := Blk.new (w.alloc (.cells #[.int .i64 0, .int .i64 0, .int .i64 0, .bool false] 32)) #[.int .i64 0, .int .i64 0, .int .i64 0, .int .i64 0] 24
  rw [World.size_alloc] at J0
  have J0 := Lib.hid J0
  clear h
  go_enter Tryd.func41, Tryd.ntmps41
  go_wp2_with fail
  refine (CO.out).mono ?_
  rintro e w1 ⟨g, rfl, hg, hr, hb⟩
  simp only [World.size_alloc] at hg
  have HB := Lib.hid (chain hb0.out hb hb0.out.size)
  have K1 := Lib.hid (K0.out.below hb)
  have J1 := Lib.hid (J0.out.below hb)
  have HR := Lib.hid (hr.less (show 33 ≤ 1000000 by omega))
  clear hb hr CO K0 J0
  go_wp2_with fail
  refine (drTest_any g 15 14 _ (by omega) (by omega) HR.out).mono ?_
  rintro e w2 ⟨a, b, c, d, rfl, hg2, hr2⟩
  have hgl := hr2.lt
  have hk1 := K1.out.lt
  have hj1 := J1.out.lt
  have hsz := hg2.size
  have H2 := HB.out.grown hg2 HB.out.size (fun k hk => by cases hk; omega)
  have hx := below_one w2 (.cells #[.int .i64 a, .int .i64 b, .int .i64 c, .bool d] 32)
  have S0 := Lib.hid (show HTh w g 15 w.heap.size (w.heap.size + 1) w2.heap.size (ts 0 0 0 false) (pk 0 0 0 0) (ts a b c d) _ from ⟨chain H2 hx H2.size, hr2.below hx, (K1.out.grown hg2 (by simp; omega)).below hx, (J1.out.grown hg2 (by simp; omega)).below hx, Blk.new w2 #[.int .i64 a, .int .i64 b, .int .i64 c, .bool d] 32, by omega⟩)
  clear hg2 hr2 H2 hx HB K1 J1 HR
  go_upto_region 3 with fail
  generalize hTv : w2.heap.size = T at S0
  generalize w2.alloc (.cells #[.int .i64 a, .int .i64 b, .int .i64 c, .bool d] 32) = W at *
  clear hTv
  go_cut [] (fun wx => ∃ x y z u : Int, HTe w w.heap.size (w.heap.size + 1) T (ts a b c d) (pk x y z u) (ts a b c d) wx)
  case first =>
    have SA := S0.out
    have SB := SA.drew
    have r0 := SB.b1.c 0 rfl
    have r1 := SB.b1.c 1 rfl
    have r2 := SB.b1.c 2 rfl
    have r3 := SB.b1.c 3 rfl
    have hgW := SA.rdr.lt
    clear S0
    refine wp_region_held_drew (S := fun w' => w'.cell? ⟨T, 0, none⟩ = some (.int .i64 a) ∧ w'.cell? ⟨T, 1, none⟩ = some (.int .i64 b) ∧ w'.cell? ⟨T, 2, none⟩ = some (.int .i64 c) ∧ w'.cell? ⟨T, 3, none⟩ = some (.bool d)) (by kernel_rfl) (by (try dsimp only); exact HTh.full SB) (fun hHeld => ?_)
    refine wpAnyH_take (i := 0) (v := ?_) rfl (by kernel_rfl) (by kernel_rfl) (by kernel_rfl) (fun _ _ _ h => h) (Or.inl ⟨by rfl, ?_⟩) (by assumption) ?_
    rotate_left
    · intro w' hSw; (try dsimp only at hSw); go_simp; try with_reducible rfl
    (try simp only [List.getElem_toArray, List.getElem_cons_succ, List.getElem_cons_zero, Act.put, List.setIfInBounds_toArray, List.set_cons_zero, List.set_cons_succ])
    refine wpAnyH_take (i := 1) (v := ?_) rfl (by kernel_rfl) (by kernel_rfl) (by kernel_rfl) (fun _ _ _ h => h) (Or.inl ⟨by rfl, ?_⟩) (by assumption) ?_
    rotate_left
    · intro w' hSw; (try dsimp only at hSw); go_simp; try with_reducible rfl
    (try simp only [List.getElem_toArray, List.getElem_cons_succ, List.getElem_cons_zero, Act.put, List.setIfInBounds_toArray, List.set_cons_zero, List.set_cons_succ])
    refine wpAnyH_take (i := 2) (v := ?_) rfl (by kernel_rfl) (by kernel_rfl) (by kernel_rfl) (fun _ _ _ h => h) (Or.inl ⟨by rfl, ?_⟩) (by assumption) ?_
    rotate_left
    · intro w' hSw; (try dsimp only at hSw); go_simp; try with_reducible rfl
    (try simp only [List.getElem_toArray, List.getElem_cons_succ, List.getElem_cons_zero, Act.put, List.setIfInBounds_toArray, List.set_cons_zero, List.set_cons_succ])
    refine wpAnyH_ready (rs := [3]) (by kernel_rfl) (by simp) ?_
    refine AllReadyH.cons rfl (fun K hK => ?_) AllReadyH.nil
    go_simp
    refine hK.out _ _ (by (try dsimp only); exact HTh.full (SA.alloc _).drew) (fun hHeld => ?_)
    clear hK K
    (try simp only [List.getElem_toArray, List.getElem_cons_succ, List.getElem_cons_zero, Act.put, List.setIfInBounds_toArray, List.set_cons_zero, List.set_cons_succ])
    refine wpAnyH_ready (rs := [4]) (by kernel_rfl) (by simp) ?_
    refine AllReadyH.cons rfl (fun K hK => ?_) AllReadyH.nil
    go_simp
    (go_at_call 73; ((with_reducible refine (drNear_any g 0 14 _ 1 1 [⟨a, b, c, d⟩] _ (by omega) (by omega) (by first | exact (SA.alloc _).drew.rdr | exact (SB.alloc _).rdr) (by first | exact Rt.drew (Rt.lit rfl a b c d) | exact Rt.lit rfl a b c d) (by intro a9 ha9; cases ha9; simp only; omega)).mono ?_); rintro e w4 ⟨x, y, z, u, rfl, hg4, hr4⟩; (first | (have S4 := HTh.pick (SA.alloc _).drew hg4 hr4) | (have S4 := HTh.pick (SB.alloc _) hg4 hr4)); have x0 := S4.b1.c 0 rfl; have x1 := S4.b1.c 1 rfl; have x2 := S4.b1.c 2 rfl; have x3 := S4.b1.c 3 rfl; have f0 := S4.b1.f 0 rfl; have f1 := S4.b1.f 1 rfl; have f2 := S4.b1.f 2 rfl; have f3 := S4.b1.f 3 rfl; have y0 := S4.b2.c 0 rfl; have y1 := S4.b2.c 1 rfl; have y2 := S4.b2.c 2 rfl; have y3 := S4.b2.c 3 rfl; have j0 := S4.b2.f 0 rfl; have j1 := S4.b2.f 1 rfl; have j2 := S4.b2.f 2 rfl; have j3 := S4.b2.f 3 rfl; have E1 := (((S4.toE.set1 0 (.int .i64 a)).set1 1 (.int .i64 b)).set1 2 (.int .i64 c)).set1 3 (.bool d); have e0 := E1.b2.c 0 rfl; have e1 := E1.b2.c 1 rfl; have e2 := E1.b2.c 2 rfl; have e3 := E1.b2.c 3 rfl; have i0 := E1.b2.f 0 rfl; have i1 := E1.b2.f 1 rfl; have i2 := E1.b2.f 2 rfl; have i3 := E1.b2.f 3 rfl; clear hg4 hr4))
    refine hK.out _ _ (by (try dsimp only); exact HTh.full S4) (fun hHeld => ?_)
    clear hK K
    (try simp only [List.getElem_toArray, List.getElem_cons_succ, List.getElem_cons_zero, Act.put, List.setIfInBounds_toArray, List.set_cons_zero, List.set_cons_succ])
    refine wpAnyH_ready (rs := [5]) (by kernel_rfl) (by simp) ?_
    refine AllReadyH.cons rfl (fun K hK => ?_) AllReadyH.nil
    go_simp
    refine hK.out _ _ (by (try dsimp only); exact HTe.full E1) (fun hHeld => ?_)
    clear hK K
    (try simp only [List.getElem_toArray, List.getElem_cons_succ, List.getElem_cons_zero, Act.put, List.setIfInBounds_toArray, List.set_cons_zero, List.set_cons_succ])
    refine wpAnyH_ready (rs := [6]) (by kernel_rfl) (by simp) ?_
    refine AllReadyH.cons rfl (fun K hK => ?_) AllReadyH.nil
    go_simp
    have Z0 := (((E1.set2 0 (.int .i64 x)).set2 1 (.int .i64 y)).set2 2 (.int .i64 z)).set2 3 (.int .i64 u)
    have Z1 := Z0.full
    refine hK.out _ _ Z1 (fun hHeld => ?_)
    clear hK K
    refine wpAnyH_done (by kernel_rfl) ?_ _
    have HZ0 := Lib.hid Z0
    clear Z0 Z1 hHeld E1 S4 x0 x1 x2 x3 f0 f1 f2 f3 y0 y1 y2 y3 j0 j1 j2 j3 e0 e1 e2 e3 i0 i1 i2 i3
    go_wp2
    go_meet
    exact ⟨x, y, z, u, HZ0.out⟩
  case rest =>
    obtain ⟨x, y, z, u, st⟩ := hcut
    have x0 := st.b1.c 0 rfl
    have x1 := st.b1.c 1 rfl
    have x2 := st.b1.c 2 rfl
    have x3 := st.b1.c 3 rfl
    have y0 := st.b2.c 0 rfl
    have y1 := st.b2.c 1 rfl
    have y2 := st.b2.c 2 rfl
    have y3 := st.b2.c 3 rfl
    have HZ := Lib.hid st.hb
    clear st S0
    go_wp2_with fail
    exact bodyPost_ret (v := .tuple #[.agg #[.int .i64 a, .int .i64 b, .int .i64 c, .bool d], .agg #[.int .i64 x, .int .i64 y, .int .i64 z, .int .i64 u]]) (by simp [results, Tryd.results41, go_sem, x0, x1, x2, x3, y0, y1, y2, y3]) rfl ⟨a, b, c, d, x, y, z, u, rfl, HZ.out⟩
end Go.Proofs.YtoapnjlpmjcloaaDoor
