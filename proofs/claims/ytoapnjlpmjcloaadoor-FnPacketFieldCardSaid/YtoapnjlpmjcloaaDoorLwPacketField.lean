/-
  THE WALK of the law FnPacketField.
-/
import Derived.Test.YtoapnjlpmjcloaaDoorDrPf
import Derived.Test.YtoapnjlpmjcloaaDoorPkEq
import Derived.Test.YtoapnjlpmjcloaaDoorIHave
import Derived.Test.YtoapnjlpmjcloaaDoorTspansB
import Derived.Test.YtoapnjlpmjcloaaDoorPfl
import Derived.BigQuiet
import Derived.Deep.QuietTactic
namespace Go.Proofs.YtoapnjlpmjcloaaDoor
open Go.ChangeShapes Go.WideShapes Go.ChangeAt Go.RowKit Go.Sort Pf

/-- The packet's box in block P. -/
structure FieldS (w : World) (P : Nat) (f t p r : Int) (wx : World) : Prop where
  hb : Below w.heap.size w wx
  sb : Blk wx P [.int .i64 f, .int .i64 t, .int .i64 p, .int .i64 r]
section
variable {w wx w' : World} {P X : Nat} {f t p r : Int}
theorem FieldS.drew (h : FieldS w P f t p r wx) : FieldS w P f t p r wx.drew := ⟨below_drewN h.hb 1, h.sb.drew⟩
theorem FieldS.below (h : FieldS w P f t p r wx) (k : Below wx.heap.size wx w') : FieldS w P f t p r w' := ⟨chain h.hb k h.hb.size, h.sb.below k⟩
theorem FieldS.alloc (h : FieldS w P f t p r wx) (o : Obj) : FieldS w P f t p r (wx.alloc o) := h.below (below_one wx o)
theorem FieldS.full (h : FieldS w P f t p r wx) : wx.cell? ⟨P, 0, none⟩ = some (.int .i64 f) ∧ wx.cell? ⟨P, 1, none⟩ = some (.int .i64 t) ∧ wx.cell? ⟨P, 2, none⟩ = some (.int .i64 p) ∧ wx.cell? ⟨P, 3, none⟩ = some (.int .i64 r) ∧ FieldS w P f t p r wx := ⟨h.sb.c 0 rfl, h.sb.c 1 rfl, h.sb.c 2 rfl, h.sb.c 3 rfl, h⟩
theorem FieldS.ofS (h : wx.cell? ⟨P, 0, none⟩ = some (.int .i64 f) ∧ wx.cell? ⟨P, 1, none⟩ = some (.int .i64 t) ∧ wx.cell? ⟨P, 2, none⟩ = some (.int .i64 p) ∧ wx.cell? ⟨P, 3, none⟩ = some (.int .i64 r) ∧ FieldS w P f t p r wx) : FieldS w P f t p r wx := h.2.2.2.2
theorem FieldS.ne (h : FieldS w P f t p r wx) : w.heap.size ≤ wx.heap.size ∧ P ≠ wx.heap.size := ⟨h.hb.size, Nat.ne_of_lt h.sb.lt⟩
theorem FieldS.neOf {W : World} {cs : Array Value} {ty : TypeId} (h : FieldS w P f t p r W) (_ : Below (W.alloc (.cells cs ty)).heap.size (W.alloc (.cells cs ty)) w') : w.heap.size ≤ W.heap.size ∧ P ≠ W.heap.size := h.ne
theorem FieldS.neOfD {W : World} {cs : Array Value} {ty : TypeId} (h : FieldS w P f t p r W.drew) (_ : Below (W.alloc (.cells cs ty)).drew.heap.size (W.alloc (.cells cs ty)).drew w') : w.heap.size ≤ W.heap.size ∧ P ≠ W.heap.size := h.ne
theorem FieldS.put4 (h : FieldS w P f t p r wx) (hX : w.heap.size ≤ X ∧ P ≠ X) (x y z u : Value) : FieldS w P f t p r ((((wx.setCell ⟨X, 0, none⟩ x).setCell ⟨X, 1, none⟩ y).setCell ⟨X, 2, none⟩ z).setCell ⟨X, 3, none⟩ u) :=
  ⟨below_put4 h.hb hX.1 _ _ _ _, (((h.sb.other _ _ hX.2.symm).other _ _ hX.2.symm).other _ _ hX.2.symm).other _ _ hX.2.symm⟩
end

set_option maxHeartbeats 2000000 in
theorem walkFnPacketField (A : Option Addr) (n c : Nat) (zs : List Int) (w : World) (hT : Tab w) (h : Rb w A n c zs) :
    Calls Tryd.prog 3 #[.slice A n c] w fun e w' => e = .returned (.bool true) ∧ Below w.heap.size w w' := by
  have hmax : n ≤ maxLen := Nat.le_trans h.2.1 h.2.2.1
  unfold maxLen at hmax
  have CD := Lib.hid (drawPacketField_any A n c zs w h)
  have HT := Lib.hid (fun W (hW : Below w.heap.size w W) => hT.below hW)
  clear h hT
  by_cases hn : n ≤ 1048576
  · have hn1 : (n : Int) ≤ 1048576 := by omega
    clear hn
    go_enter Tryd.func3, Tryd.ntmps3
    go_wp2_with fail
    refine (CD.out).mono ?_
    rintro e w1 ⟨f, t, p, r, m, rfl, ⟨m0, m1⟩, hb1⟩
    have H1 := Lib.hid (chain hb1 (below_one w1 (.cells #[.int .i64 f, .int .i64 t, .int .i64 p, .int .i64 r] 24)) hb1.size)
    have K1 := Lib.hid (Blk.new w1 #[.int .i64 f, .int .i64 t, .int .i64 p, .int .i64 r] 24)
    obtain ⟨v, hv⟩ : ∃ v, pfF f t p r m = v := ⟨_, rfl⟩
    have HV := Lib.hid hv
    have hne : (v != v) = false := by simp
    clear hb1 CD hv
    go_wp2_with fail
    refine (tv_int (iPacketField_any f t p r m _ (HT.out _ H1.out)) HV.out).mono ?_
    rintro e w2 ⟨rfl, hb2⟩
    have H2 := Lib.hid (chain H1.out hb2 H1.out.size)
    have K2 := Lib.hid (K1.out.below hb2)
    clear hb2 H1 K1
    have c0 := K2.out.c 0 rfl
    have c1 := K2.out.c 1 rfl
    have c2 := K2.out.c 2 rfl
    have c3 := K2.out.c 3 rfl
    go_wp2_with fail
    refine (tv_int (sPacketField_any f t p r m _) HV.out).mono ?_
    rintro e w3 ⟨rfl, hb3⟩
    have H3 := Lib.hid (chain H2.out hb3 H2.out.size)
    have K3 := Lib.hid (K2.out.below hb3)
    clear c0 c1 c2 c3 hb3 H2 K2
    by_cases hk : pkB f t p r = true ∧ (0 ≤ m ∧ m ≤ 3)
    · obtain ⟨hb, hm0, hm1⟩ := hk
      have e0 : pfF f t p r 0 = f := by simp [pfF, hb, inR, nthF]
      have e1 : pfF f t p r 1 = t := by simp [pfF, hb, inR, nthF]
      have e2 : pfF f t p r 2 = p := by simp [pfF, hb, inR, nthF]
      have e3 : pfF f t p r 3 = r := by simp [pfF, hb, inR, nthF]
      have hv2 : 0 ≤ v ∧ v ≤ topF m := by
        rw [← HV.out]
        obtain ⟨b0, b1, b2, b3⟩ := pkB_iff.1 hb
        have hm : m = 0 ∨ m = 1 ∨ m = 2 ∨ m = 3 := by omega
        rcases hm with rfl | rfl | rfl | rfl
        · rw [e0, topF_0]; omega
        · rw [e1, topF_1]; omega
        · rw [e2, topF_2]; omega
        · rw [e3, topF_3]; omega
      obtain ⟨hv0, hv1⟩ := hv2
      have CP0 := Lib.hid (fun W (hW : Below w.heap.size w W) => tv_int (iPacketField_any f t p r 0 W (HT.out W hW)) e0)
      have CP1 := Lib.hid (fun W (hW : Below w.heap.size w W) => tv_int (iPacketField_any f t p r 1 W (HT.out W hW)) e1)
      have CP2 := Lib.hid (fun W (hW : Below w.heap.size w W) => tv_int (iPacketField_any f t p r 2 W (HT.out W hW)) e2)
      have CP3 := Lib.hid (fun W (hW : Below w.heap.size w W) => tv_int (iPacketField_any f t p r 3 W (HT.out W hW)) e3)
      have CT := Lib.hid (fun W (hW : Below w.heap.size w W) => iFieldTop_any m W (HT.out W hW))
      generalize topF m = tp at hv1 CT
      have hnl : ¬ v < 0 := by omega
      clear e0 e1 e2 e3 hb
      go_upto_region 9 with fail
      go_cut [6] (fun s6 wx => ∃ X : Nat, s6 = .pointer (some ⟨X, 0, none⟩) ∧ Below w.heap.size w wx ∧ Blk wx X [.int .i64 f, .int .i64 t, .int .i64 p, .int .i64 r] ∧ Blk wx w1.heap.size [.int .i64 f, .int .i64 t, .int .i64 p, .int .i64 r])
      case first =>
        have hFS := (FieldS.mk H3.out K3.out).drew
        have FF := hFS.full
        have c0 := hFS.sb.c 0 rfl
        have c1 := hFS.sb.c 1 rfl
        have c2 := hFS.sb.c 2 rfl
        have c3 := hFS.sb.c 3 rfl
        go_region_held3 (fun w' => w'.cell? ⟨w1.heap.size, 0, none⟩ = some (.int .i64 f) ∧ w'.cell? ⟨w1.heap.size, 1, none⟩ = some (.int .i64 t) ∧ w'.cell? ⟨w1.heap.size, 2, none⟩ = some (.int .i64 p) ∧ w'.cell? ⟨w1.heap.size, 3, none⟩ = some (.int .i64 r) ∧ FieldS w w1.heap.size f t p r w') (first | with_reducible assumption | exact FieldS.full (by with_reducible assumption) | exact FieldS.full (FieldS.alloc (by first | with_reducible assumption | exact FieldS.ofS (by with_reducible assumption)) _) | exact FieldS.full (FieldS.put4 (by first | with_reducible assumption | exact FieldS.ofS (by with_reducible assumption)) hXP _ _ _ _)) (first | (go_at_call 15; (with_reducible refine (CP0.out _ (by first | exact FieldS.hb (by first | with_reducible assumption | exact FieldS.ofS (by with_reducible assumption)) | exact FieldS.hb (FieldS.alloc (by first | with_reducible assumption | exact FieldS.ofS (by with_reducible assumption)) _))).mono ?_); rintro e w' ⟨rfl, hbx⟩; (first | (have hFS := FieldS.below (by first | with_reducible assumption | exact FieldS.ofS (by with_reducible assumption)) hbx) | (have hFS := FieldS.below (FieldS.alloc (by first | with_reducible assumption | exact FieldS.ofS (by with_reducible assumption)) _) hbx)); (first | (have BX := Blk.below (Blk.new _ #[.int .i64 0, .int .i64 0, .int .i64 0, .int .i64 0] 24) hbx; have hXP := FieldS.neOf (by first | with_reducible assumption | exact FieldS.ofS (by with_reducible assumption)) hbx; have z0 := BX.c 0 rfl; have g0 := BX.f 0 rfl; have z1 := BX.c 1 rfl; have g1 := BX.f 1 rfl; have z2 := BX.c 2 rfl; have g2 := BX.f 2 rfl; have z3 := BX.c 3 rfl; have g3 := BX.f 3 rfl; skip) | (have BX := Blk.below (Blk.drew (Blk.new _ #[.int .i64 0, .int .i64 0, .int .i64 0, .int .i64 0] 24)) hbx; have hXP := FieldS.neOfD (by with_reducible assumption) hbx; have z0 := BX.c 0 rfl; have g0 := BX.f 0 rfl; have z1 := BX.c 1 rfl; have g1 := BX.f 1 rfl; have z2 := BX.c 2 rfl; have g2 := BX.f 2 rfl; have z3 := BX.c 3 rfl; have g3 := BX.f 3 rfl; skip) | (have BX := Blk.below (vs := [.int .i64 0, .int .i64 0, .int .i64 0, .int .i64 0]) (by with_reducible assumption) hbx; have z0 := BX.c 0 rfl; have g0 := BX.f 0 rfl; have z1 := BX.c 1 rfl; have g1 := BX.f 1 rfl; have z2 := BX.c 2 rfl; have g2 := BX.f 2 rfl; have z3 := BX.c 3 rfl; have g3 := BX.f 3 rfl; skip) | skip); clear hbx) | (go_at_call 15; (with_reducible refine (CP1.out _ (by first | exact FieldS.hb (by first | with_reducible assumption | exact FieldS.ofS (by with_reducible assumption)) | exact FieldS.hb (FieldS.alloc (by first | with_reducible assumption | exact FieldS.ofS (by with_reducible assumption)) _))).mono ?_); rintro e w' ⟨rfl, hbx⟩; (first | (have hFS := FieldS.below (by first | with_reducible assumption | exact FieldS.ofS (by with_reducible assumption)) hbx) | (have hFS := FieldS.below (FieldS.alloc (by first | with_reducible assumption | exact FieldS.ofS (by with_reducible assumption)) _) hbx)); (first | (have BX := Blk.below (Blk.new _ #[.int .i64 0, .int .i64 0, .int .i64 0, .int .i64 0] 24) hbx; have hXP := FieldS.neOf (by first | with_reducible assumption | exact FieldS.ofS (by with_reducible assumption)) hbx; have z0 := BX.c 0 rfl; have g0 := BX.f 0 rfl; have z1 := BX.c 1 rfl; have g1 := BX.f 1 rfl; have z2 := BX.c 2 rfl; have g2 := BX.f 2 rfl; have z3 := BX.c 3 rfl; have g3 := BX.f 3 rfl; skip) | (have BX := Blk.below (Blk.drew (Blk.new _ #[.int .i64 0, .int .i64 0, .int .i64 0, .int .i64 0] 24)) hbx; have hXP := FieldS.neOfD (by with_reducible assumption) hbx; have z0 := BX.c 0 rfl; have g0 := BX.f 0 rfl; have z1 := BX.c 1 rfl; have g1 := BX.f 1 rfl; have z2 := BX.c 2 rfl; have g2 := BX.f 2 rfl; have z3 := BX.c 3 rfl; have g3 := BX.f 3 rfl; skip) | (have BX := Blk.below (vs := [.int .i64 0, .int .i64 0, .int .i64 0, .int .i64 0]) (by with_reducible assumption) hbx; have z0 := BX.c 0 rfl; have g0 := BX.f 0 rfl; have z1 := BX.c 1 rfl; have g1 := BX.f 1 rfl; have z2 := BX.c 2 rfl; have g2 := BX.f 2 rfl; have z3 := BX.c 3 rfl; have g3 := BX.f 3 rfl; skip) | skip); clear hbx) | (go_at_call 15; (with_reducible refine (CP2.out _ (by first | exact FieldS.hb (by first | with_reducible assumption | exact FieldS.ofS (by with_reducible assumption)) | exact FieldS.hb (FieldS.alloc (by first | with_reducible assumption | exact FieldS.ofS (by with_reducible assumption)) _))).mono ?_); rintro e w' ⟨rfl, hbx⟩; (first | (have hFS := FieldS.below (by first | with_reducible assumption | exact FieldS.ofS (by with_reducible assumption)) hbx) | (have hFS := FieldS.below (FieldS.alloc (by first | with_reducible assumption | exact FieldS.ofS (by with_reducible assumption)) _) hbx)); (first | (have BX := Blk.below (Blk.new _ #[.int .i64 0, .int .i64 0, .int .i64 0, .int .i64 0] 24) hbx; have hXP := FieldS.neOf (by first | with_reducible assumption | exact FieldS.ofS (by with_reducible assumption)) hbx; have z0 := BX.c 0 rfl; have g0 := BX.f 0 rfl; have z1 := BX.c 1 rfl; have g1 := BX.f 1 rfl; have z2 := BX.c 2 rfl; have g2 := BX.f 2 rfl; have z3 := BX.c 3 rfl; have g3 := BX.f 3 rfl; skip) | (have BX := Blk.below (Blk.drew (Blk.new _ #[.int .i64 0, .int .i64 0, .int .i64 0, .int .i64 0] 24)) hbx; have hXP := FieldS.neOfD (by with_reducible assumption) hbx; have z0 := BX.c 0 rfl; have g0 := BX.f 0 rfl; have z1 := BX.c 1 rfl; have g1 := BX.f 1 rfl; have z2 := BX.c 2 rfl; have g2 := BX.f 2 rfl; have z3 := BX.c 3 rfl; have g3 := BX.f 3 rfl; skip) | (have BX := Blk.below (vs := [.int .i64 0, .int .i64 0, .int .i64 0, .int .i64 0]) (by with_reducible assumption) hbx; have z0 := BX.c 0 rfl; have g0 := BX.f 0 rfl; have z1 := BX.c 1 rfl; have g1 := BX.f 1 rfl; have z2 := BX.c 2 rfl; have g2 := BX.f 2 rfl; have z3 := BX.c 3 rfl; have g3 := BX.f 3 rfl; skip) | skip); clear hbx) | (go_at_call 15; (with_reducible refine (CP3.out _ (by first | exact FieldS.hb (by first | with_reducible assumption | exact FieldS.ofS (by with_reducible assumption)) | exact FieldS.hb (FieldS.alloc (by first | with_reducible assumption | exact FieldS.ofS (by with_reducible assumption)) _))).mono ?_); rintro e w' ⟨rfl, hbx⟩; (first | (have hFS := FieldS.below (by first | with_reducible assumption | exact FieldS.ofS (by with_reducible assumption)) hbx) | (have hFS := FieldS.below (FieldS.alloc (by first | with_reducible assumption | exact FieldS.ofS (by with_reducible assumption)) _) hbx)); (first | (have BX := Blk.below (Blk.new _ #[.int .i64 0, .int .i64 0, .int .i64 0, .int .i64 0] 24) hbx; have hXP := FieldS.neOf (by first | with_reducible assumption | exact FieldS.ofS (by with_reducible assumption)) hbx; have z0 := BX.c 0 rfl; have g0 := BX.f 0 rfl; have z1 := BX.c 1 rfl; have g1 := BX.f 1 rfl; have z2 := BX.c 2 rfl; have g2 := BX.f 2 rfl; have z3 := BX.c 3 rfl; have g3 := BX.f 3 rfl; skip) | (have BX := Blk.below (Blk.drew (Blk.new _ #[.int .i64 0, .int .i64 0, .int .i64 0, .int .i64 0] 24)) hbx; have hXP := FieldS.neOfD (by with_reducible assumption) hbx; have z0 := BX.c 0 rfl; have g0 := BX.f 0 rfl; have z1 := BX.c 1 rfl; have g1 := BX.f 1 rfl; have z2 := BX.c 2 rfl; have g2 := BX.f 2 rfl; have z3 := BX.c 3 rfl; have g3 := BX.f 3 rfl; skip) | (have BX := Blk.below (vs := [.int .i64 0, .int .i64 0, .int .i64 0, .int .i64 0]) (by with_reducible assumption) hbx; have z0 := BX.c 0 rfl; have g0 := BX.f 0 rfl; have z1 := BX.c 1 rfl; have g1 := BX.f 1 rfl; have z2 := BX.c 2 rfl; have g2 := BX.f 2 rfl; have z3 := BX.c 3 rfl; have g3 := BX.f 3 rfl; skip) | skip); clear hbx))
        all_goals
          go_wp2
          go_meet
          first
            | exact ⟨_, rfl, below_put4 hFS.hb hXP.1 _ _ _ _, (((BX.set 0 _).set 1 _).set 2 _).set 3 _, (FieldS.put4 hFS hXP _ _ _ _).sb⟩
            | exact ⟨_, rfl, (FieldS.alloc hFS _).hb, Blk.new _ #[.int .i64 f, .int .i64 t, .int .i64 p, .int .i64 r] _, (FieldS.alloc hFS _).sb⟩
      case rest =>
        obtain ⟨X, rfl, hbw, bx, bp⟩ := hcut
        have hgd := pktGuard
        have hrun := fun W => (eq_pkt f t p r f t p r W).trans (by rw [show eq4 f t p r f t p r = true by simp [eq4]])
        have x0 := bx.c 0 rfl
        have x1 := bx.c 1 rfl
        have x2 := bx.c 2 rfl
        have x3 := bx.c 3 rfl
        have p0 := bp.c 0 rfl
        have p1 := bp.c 1 rfl
        have p2 := bp.c 2 rfl
        have p3 := bp.c 3 rfl
        clear bx bp H3 K3 CP0 CP1 CP2 CP3
        go_wp2_with fail
        refine (CT.out _ hbw).mono ?_
        rintro e w5 ⟨rfl, rfl⟩
        have hle : decide (v ≤ tp) = true := by simpa using hv1
        go_wp2
        go_ret
        exact ⟨rfl, hbw⟩
    · have hv : v = -1 := by
        rw [← HV.out]
        unfold pfF
        rw [if_neg (by simpa [Bool.and_eq_true, inR_iff] using hk)]
      subst hv
      clear hk HV
      go_wp2_with fail
      refine (alive_any _).mono ?_
      rintro e w4 ⟨rfl, hb4⟩
      have H4 := Lib.hid (chain H3.out hb4 H3.out.size)
      clear hb4
      go_wp2
      go_ret
      exact ⟨rfl, H4.out⟩
  · have hn1 : (1048576 : Int) < n := by omega
    clear hn
    go_enter Tryd.func3, Tryd.ntmps3
    go_wp2
    go_ret
    exact ⟨rfl, Below.refl _ _⟩
end Go.Proofs.YtoapnjlpmjcloaaDoor
