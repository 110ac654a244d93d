/-
  THE WALK of the law FnTestHolds.
-/
import Derived.Test.YtoapnjlpmjcloaaDoorDrTh
import Derived.Test.YtoapnjlpmjcloaaDoorTholdS
import Derived.Test.YtoapnjlpmjcloaaDoorThold
import Derived.Test.YtoapnjlpmjcloaaDoorIHave
import Derived.Test.YtoapnjlpmjcloaaDoorTspansB
namespace Go.Proofs.YtoapnjlpmjcloaaDoor
open Go.ChangeShapes Go.WideShapes Go.ChangeAt Go.RowKit Go.Sort Pf

set_option maxRecDepth 20000
theorem th_q0 {lo hi f t p r : Int} {nt : Bool} (hp : pkB f t p r = true) : thB 0 lo hi nt f 0 0 0 = thB 0 lo hi nt f t p r := by
  obtain ⟨h0, h1, h2, h3⟩ := pkB_iff.1 hp
  have hq : pkB f 0 0 0 = true := pkB_true (by omega)
  simp [thB, hp, hq, nthF]
theorem th_q1 {lo hi f t p r : Int} {nt : Bool} (hp : pkB f t p r = true) : thB 1 lo hi nt 0 t 0 0 = thB 1 lo hi nt f t p r := by
  obtain ⟨h0, h1, h2, h3⟩ := pkB_iff.1 hp
  have hq : pkB 0 t 0 0 = true := pkB_true (by omega)
  simp [thB, hp, hq, nthF]
theorem th_q2 {lo hi f t p r : Int} {nt : Bool} (hp : pkB f t p r = true) : thB 2 lo hi nt 0 0 p 0 = thB 2 lo hi nt f t p r := by
  obtain ⟨h0, h1, h2, h3⟩ := pkB_iff.1 hp
  have hq : pkB 0 0 p 0 = true := pkB_true (by omega)
  simp [thB, hp, hq, nthF]
theorem th_q3 {lo hi f t p r : Int} {nt : Bool} (hp : pkB f t p r = true) : thB 3 lo hi nt 0 0 0 r = thB 3 lo hi nt f t p r := by
  obtain ⟨h0, h1, h2, h3⟩ := pkB_iff.1 hp
  have hq : pkB 0 0 0 r = true := pkB_true (by omega)
  simp [thB, hp, hq, nthF]
theorem blk4 {W : World} {b : Nat} {v0 v1 v2 v3 : Value} (h : b < W.heap.size) (c0 : W.cell? ⟨b, 0, none⟩ = some v0) (c1 : W.cell? ⟨b, 1, none⟩ = some v1) (c2 : W.cell? ⟨b, 2, none⟩ = some v2) (c3 : W.cell? ⟨b, 3, none⟩ = some v3)
    (f0 : W.frozen? ⟨b, 0, none⟩ = false) (f1 : W.frozen? ⟨b, 1, none⟩ = false) (f2 : W.frozen? ⟨b, 2, none⟩ = false) (f3 : W.frozen? ⟨b, 3, none⟩ = false) : Blk W b [v0, v1, v2, v3] := by
  refine ⟨h, fun j v hj => ?_⟩
  match j, hj with
  | 0, hj => simp at hj; subst hj; exact ⟨c0, f0⟩
  | 1, hj => simp at hj; subst hj; exact ⟨c1, f1⟩
  | 2, hj => simp at hj; subst hj; exact ⟨c2, f2⟩
  | 3, hj => simp at hj; subst hj; exact ⟨c3, f3⟩

set_option maxHeartbeats 2000000 in
theorem walkFnTestHolds (A : Option Addr) (n c : Nat) (zs : List Int) (w : World) (hT : Tab w) (h : Rb w A n c zs) :
    Calls Tryd.prog 10 #[.slice A n c] w fun e w' => e = .returned (.bool true) ∧ Below w.heap.size w w' := by
  have hmax : n ≤ maxLen := Nat.le_trans h.2.1 h.2.2.1
  unfold maxLen at hmax
  have CD := Lib.hid (drawTestHolds_any A n c zs w h)
  have HT := Lib.hid (fun W (hW : Below w.heap.size w W) => hT.below hW)
  clear h hT
  by_cases hn : n ≤ 1048576
  · have hn1 : (n : Int) ≤ 1048576 := by omega
    clear hn
    go_enter Tryd.func10, Tryd.ntmps10
    go_upto_region 3 with fail
    go_cut [3, 4] (fun s3 s4 wx => ∃ (Tb Pb : Nat) (fl lo hi : Int) (nt : Bool) (f t p r : Int), s3 = .pointer (some ⟨Tb, 0, none⟩) ∧ s4 = .pointer (some ⟨Pb, 0, none⟩) ∧ Below w.heap.size w wx ∧ Blk wx Tb [.int .i64 fl, .int .i64 lo, .int .i64 hi, .bool nt] ∧ Blk wx Pb [.int .i64 f, .int .i64 t, .int .i64 p, .int .i64 r])
    case first =>
      go_wp2_with fail
      refine (CD.out).mono ?_
      rintro e w1 ⟨fl, lo, hi, nt, f, t, p, r, rfl, hb1⟩
      have H1 := Lib.hid hb1
      have hs1 := hb1.size
      clear hb1 CD HT
      go_wp2
      go_meet
      refine ⟨_, _, fl, lo, hi, nt, f, t, p, r, rfl, rfl, ?_, ?_, ?_⟩
      · first
          | exact chain H1.out (below_two w1 _ _) hs1
          | exact below_put4 (below_put4 (chain H1.out (below_two w1 _ _) hs1) (by omega) _ _ _ _) (by simp; omega) _ _ _ _
      · exact blk4 (by simp; omega) (by go_cell) (by go_cell) (by go_cell) (by go_cell) (by go_simp) (by go_simp) (by go_simp) (by go_simp)
      · exact blk4 (by simp) (by go_cell) (by go_cell) (by go_cell) (by go_cell) (by go_simp) (by go_simp) (by go_simp) (by go_simp)
    case rest =>
    obtain ⟨Tb, Pb, fl, lo, hi, nt, f, t, p, r, rfl, rfl, hb1, kt1, kp1⟩ := hcut
    have H1 := Lib.hid hb1
    have KT1 := Lib.hid kt1
    have KP1 := Lib.hid kp1
    obtain ⟨v, hv⟩ : ∃ v, thB fl lo hi nt f t p r = v := ⟨_, rfl⟩
    have HV := Lib.hid hv
    have hne : (v != v) = false := by simp
    clear hb1 kt1 kp1 hv CD
    have a0 := KT1.out.c 0 rfl
    have a1 := KT1.out.c 1 rfl
    have a2 := KT1.out.c 2 rfl
    have a3 := KT1.out.c 3 rfl
    have b0 := KP1.out.c 0 rfl
    have b1 := KP1.out.c 1 rfl
    have b2 := KP1.out.c 2 rfl
    have b3 := KP1.out.c 3 rfl
    go_wp2_with fail
    refine (tv_bool (iTestHolds_any fl lo hi nt f t p r _ (HT.out _ H1.out)) HV.out).mono ?_
    rintro e w2 ⟨rfl, hb2⟩
    have H2 := Lib.hid (chain H1.out hb2 H1.out.size)
    have KT2 := Lib.hid (KT1.out.below hb2)
    have KP2 := Lib.hid (KP1.out.below hb2)
    clear hb2 H1 KT1 KP1 a0 a1 a2 a3 b0 b1 b2 b3
    have a0 := KT2.out.c 0 rfl
    have a1 := KT2.out.c 1 rfl
    have a2 := KT2.out.c 2 rfl
    have a3 := KT2.out.c 3 rfl
    have b0 := KP2.out.c 0 rfl
    have b1 := KP2.out.c 1 rfl
    have b2 := KP2.out.c 2 rfl
    have b3 := KP2.out.c 3 rfl
    go_wp2_with fail
    refine (tv_bool (sTestHolds_any fl lo hi nt f t p r _) HV.out).mono ?_
    rintro e w3 ⟨rfl, hb3⟩
    have H3 := Lib.hid (chain H2.out hb3 H2.out.size)
    have KT3 := Lib.hid (KT2.out.below hb3)
    have KP3 := Lib.hid (KP2.out.below hb3)
    clear hb3 H2 KT2 KP2 a0 a1 a2 a3 b0 b1 b2 b3
    have a0 := KT3.out.c 0 rfl
    have a1 := KT3.out.c 1 rfl
    have a2 := KT3.out.c 2 rfl
    have a3 := KT3.out.c 3 rfl
    cases hu : tsB fl lo hi with
    | false =>
      have hv0 : v = false := by rw [← HV.out]; exact th_no1 hu
      subst hv0
      have HU := Lib.hid hu
      clear hu
      go_wp2_with fail
      refine (tv_bool (sTestValid_any fl lo hi nt _) HU.out).mono ?_
      rintro e w4 ⟨rfl, hb4⟩
      have H4 := Lib.hid (chain H3.out hb4 H3.out.size)
      clear hb4
      go_wp2_with fail
      refine (alive_any _).mono ?_
      rintro e w5 ⟨rfl, hb5⟩
      have H5 := Lib.hid (chain H4.out hb5 H4.out.size)
      clear hb5
      go_wp2
      go_ret
      exact ⟨rfl, H5.out⟩
    | true =>
      have HU := Lib.hid hu
      clear hu
      go_wp2_with fail
      refine (tv_bool (sTestValid_any fl lo hi nt _) HU.out).mono ?_
      rintro e w4 ⟨rfl, hb4⟩
      have H4 := Lib.hid (chain H3.out hb4 H3.out.size)
      have KT4 := Lib.hid (KT3.out.below hb4)
      have KP4 := Lib.hid (KP3.out.below hb4)
      clear hb4 H3 KT3 KP3 a0 a1 a2 a3
      have b0 := KP4.out.c 0 rfl
      have b1 := KP4.out.c 1 rfl
      have b2 := KP4.out.c 2 rfl
      have b3 := KP4.out.c 3 rfl
      cases hp : pkB f t p r with
      | false =>
        have hv0 : v = false := by rw [← HV.out]; exact th_no2 hp
        subst hv0
        have HP := Lib.hid hp
        clear hp
        go_wp2_with fail
        refine (tv_bool (sPacketValid_any f t p r _) HP.out).mono ?_
        rintro e w5 ⟨rfl, hb5⟩
        have H5 := Lib.hid (chain H4.out hb5 H4.out.size)
        clear hb5
        go_wp2_with fail
        refine (alive_any _).mono ?_
        rintro e w6 ⟨rfl, hb6⟩
        have H6 := Lib.hid (chain H5.out hb6 H5.out.size)
        clear hb6
        go_wp2
        go_ret
        exact ⟨rfl, H6.out⟩
      | true =>
        have HP := Lib.hid hp
        clear hp
        go_wp2_with fail
        refine (tv_bool (sPacketValid_any f t p r _) HP.out).mono ?_
        rintro e w5 ⟨rfl, hb5⟩
        have H5 := Lib.hid (chain H4.out hb5 H4.out.size)
        have KT5 := Lib.hid (KT4.out.below hb5)
        have KP5 := Lib.hid (KP4.out.below hb5)
        clear hb5 H4 KT4 KP4 b0 b1 b2 b3
        have HN := Lib.hid (show thB fl lo hi (!nt) f t p r = !v by rw [th_not HU.out HP.out, HV.out])
        have hvv : (v == v) = true := by simp
        have hvn : ((!v) == !v) = true := by simp
        obtain ⟨⟨fl0, fl3⟩, -, -⟩ := tsB_iff.1 HU.out
        rcases in_four fl0 (by omega : fl < 4) with rfl | rfl | rfl | rfl
        · have HQ := Lib.hid (show thB 0 lo hi nt f 0 0 0 = v by rw [th_q0 HP.out, HV.out])
          have g0 := KT5.out.c 0 rfl
          have g1 := KT5.out.c 1 rfl
          have g2 := KT5.out.c 2 rfl
          have g3 := KT5.out.c 3 rfl
          have A1 := below_one w5 (.cells #[.int .i64 0, .int .i64 lo, .int .i64 hi, .bool nt] 32)
          have A2 := below_one w5 (.cells #[.int .i64 0, .int .i64 lo, .int .i64 hi, .bool (!nt)] 32)
          have A3 := below_one (w5.alloc (.cells #[.int .i64 0, .int .i64 lo, .int .i64 hi, .bool (!nt)] 32)) (.cells #[.int .i64 0, .int .i64 0, .int .i64 0, .int .i64 0] 24)
          have A4 := below_one (w5.alloc (.cells #[.int .i64 0, .int .i64 lo, .int .i64 hi, .bool (!nt)] 32)) (.cells #[.int .i64 f, .int .i64 0, .int .i64 0, .int .i64 0] 24)
          have m3 := keepCell A1 g3
          have m0 := keepCell A3 (keepCell A2 g0)
          have mj := keepCell A3 (keepCell A2 (KP5.out.c 0 rfl))
          have H7 := Lib.hid (chain (chain H5.out A2 H5.out.size) A4 (chain H5.out A2 H5.out.size).size)
          have KT7 := Lib.hid ((KT5.out.below A2).below A4)
          have KP7 := Lib.hid ((KP5.out.below A2).below A4)
          have KU7 := Lib.hid ((Blk.new w5 #[.int .i64 0, .int .i64 lo, .int .i64 hi, .bool (!nt)] 32).below A4)
          have kq7 := Blk.new (w5.alloc (.cells #[.int .i64 0, .int .i64 lo, .int .i64 hi, .bool (!nt)] 32)) #[.int .i64 f, .int .i64 0, .int .i64 0, .int .i64 0] 24
          rw [World.size_alloc] at kq7
          have KQ7 := Lib.hid kq7
          clear A1 A2 A3 A4 kq7 H5 KT5 KP5
          go_upto_region 20 with fail
          clear g0 g1 g2 g3 m0 m3 mj
          generalize hX : (w5.alloc (.cells #[.int .i64 0, .int .i64 lo, .int .i64 hi, .bool (!nt)] 32)).alloc (.cells #[.int .i64 f, .int .i64 0, .int .i64 0, .int .i64 0] 24) = X at H7 KT7 KP7 KU7 KQ7 ⊢
          have u0 := KU7.out.c 0 rfl
          have u1 := KU7.out.c 1 rfl
          have u2 := KU7.out.c 2 rfl
          have u3 := KU7.out.c 3 rfl
          have b0 := KP7.out.c 0 rfl
          have b1 := KP7.out.c 1 rfl
          have b2 := KP7.out.c 2 rfl
          have b3 := KP7.out.c 3 rfl
          go_wp2_with fail
          refine (tv_bool (iTestHolds_any 0 lo hi (!nt) f t p r _ (HT.out _ H7.out)) HN.out).mono ?_
          rintro e w8 ⟨rfl, hb8⟩
          have H8 := Lib.hid (chain H7.out hb8 H7.out.size)
          have KT8 := Lib.hid (KT7.out.below hb8)
          have KQ8 := Lib.hid (KQ7.out.below hb8)
          clear hb8 H7 KT7 KP7 KU7 KQ7 u0 u1 u2 u3 b0 b1 b2 b3 hX
          have g0 := KT8.out.c 0 rfl
          have g1 := KT8.out.c 1 rfl
          have g2 := KT8.out.c 2 rfl
          have g3 := KT8.out.c 3 rfl
          have q0 := KQ8.out.c 0 rfl
          have q1 := KQ8.out.c 1 rfl
          have q2 := KQ8.out.c 2 rfl
          have q3 := KQ8.out.c 3 rfl
          go_wp2_with fail
          refine (tv_bool (iTestHolds_any 0 lo hi nt f 0 0 0 _ (HT.out _ H8.out)) HQ.out).mono ?_
          rintro e w9 ⟨rfl, hb9⟩
          have H9 := Lib.hid (chain H8.out hb9 H8.out.size)
          clear hb9
          go_wp2
          go_ret
          exact ⟨rfl, H9.out⟩
        · have HQ := Lib.hid (show thB 1 lo hi nt 0 t 0 0 = v by rw [th_q1 HP.out, HV.out])
          have g0 := KT5.out.c 0 rfl
          have g1 := KT5.out.c 1 rfl
          have g2 := KT5.out.c 2 rfl
          have g3 := KT5.out.c 3 rfl
          have A1 := below_one w5 (.cells #[.int .i64 1, .int .i64 lo, .int .i64 hi, .bool nt] 32)
          have A2 := below_one w5 (.cells #[.int .i64 1, .int .i64 lo, .int .i64 hi, .bool (!nt)] 32)
          have A3 := below_one (w5.alloc (.cells #[.int .i64 1, .int .i64 lo, .int .i64 hi, .bool (!nt)] 32)) (.cells #[.int .i64 0, .int .i64 0, .int .i64 0, .int .i64 0] 24)
          have A4 := below_one (w5.alloc (.cells #[.int .i64 1, .int .i64 lo, .int .i64 hi, .bool (!nt)] 32)) (.cells #[.int .i64 0, .int .i64 t, .int .i64 0, .int .i64 0] 24)
          have m3 := keepCell A1 g3
          have m0 := keepCell A3 (keepCell A2 g0)
          have mj := keepCell A3 (keepCell A2 (KP5.out.c 1 rfl))
          have H7 := Lib.hid (chain (chain H5.out A2 H5.out.size) A4 (chain H5.out A2 H5.out.size).size)
          have KT7 := Lib.hid ((KT5.out.below A2).below A4)
          have KP7 := Lib.hid ((KP5.out.below A2).below A4)
          have KU7 := Lib.hid ((Blk.new w5 #[.int .i64 1, .int .i64 lo, .int .i64 hi, .bool (!nt)] 32).below A4)
          have kq7 := Blk.new (w5.alloc (.cells #[.int .i64 1, .int .i64 lo, .int .i64 hi, .bool (!nt)] 32)) #[.int .i64 0, .int .i64 t, .int .i64 0, .int .i64 0] 24
          rw [World.size_alloc] at kq7
          have KQ7 := Lib.hid kq7
          clear A1 A2 A3 A4 kq7 H5 KT5 KP5
          go_upto_region 20 with fail
          clear g0 g1 g2 g3 m0 m3 mj
          generalize hX : (w5.alloc (.cells #[.int .i64 1, .int .i64 lo, .int .i64 hi, .bool (!nt)] 32)).alloc (.cells #[.int .i64 0, .int .i64 t, .int .i64 0, .int .i64 0] 24) = X at H7 KT7 KP7 KU7 KQ7 ⊢
          have u0 := KU7.out.c 0 rfl
          have u1 := KU7.out.c 1 rfl
          have u2 := KU7.out.c 2 rfl
          have u3 := KU7.out.c 3 rfl
          have b0 := KP7.out.c 0 rfl
          have b1 := KP7.out.c 1 rfl
          have b2 := KP7.out.c 2 rfl
          have b3 := KP7.out.c 3 rfl
          go_wp2_with fail
          refine (tv_bool (iTestHolds_any 1 lo hi (!nt) f t p r _ (HT.out _ H7.out)) HN.out).mono ?_
          rintro e w8 ⟨rfl, hb8⟩
          have H8 := Lib.hid (chain H7.out hb8 H7.out.size)
          have KT8 := Lib.hid (KT7.out.below hb8)
          have KQ8 := Lib.hid (KQ7.out.below hb8)
          clear hb8 H7 KT7 KP7 KU7 KQ7 u0 u1 u2 u3 b0 b1 b2 b3 hX
          have g0 := KT8.out.c 0 rfl
          have g1 := KT8.out.c 1 rfl
          have g2 := KT8.out.c 2 rfl
          have g3 := KT8.out.c 3 rfl
          have q0 := KQ8.out.c 0 rfl
          have q1 := KQ8.out.c 1 rfl
          have q2 := KQ8.out.c 2 rfl
          have q3 := KQ8.out.c 3 rfl
          go_wp2_with fail
          refine (tv_bool (iTestHolds_any 1 lo hi nt 0 t 0 0 _ (HT.out _ H8.out)) HQ.out).mono ?_
          rintro e w9 ⟨rfl, hb9⟩
          have H9 := Lib.hid (chain H8.out hb9 H8.out.size)
          clear hb9
          go_wp2
          go_ret
          exact ⟨rfl, H9.out⟩
        · have HQ := Lib.hid (show thB 2 lo hi nt 0 0 p 0 = v by rw [th_q2 HP.out, HV.out])
          have g0 := KT5.out.c 0 rfl
          have g1 := KT5.out.c 1 rfl
          have g2 := KT5.out.c 2 rfl
          have g3 := KT5.out.c 3 rfl
          have A1 := below_one w5 (.cells #[.int .i64 2, .int .i64 lo, .int .i64 hi, .bool nt] 32)
          have A2 := below_one w5 (.cells #[.int .i64 2, .int .i64 lo, .int .i64 hi, .bool (!nt)] 32)
          have A3 := below_one (w5.alloc (.cells #[.int .i64 2, .int .i64 lo, .int .i64 hi, .bool (!nt)] 32)) (.cells #[.int .i64 0, .int .i64 0, .int .i64 0, .int .i64 0] 24)
          have A4 := below_one (w5.alloc (.cells #[.int .i64 2, .int .i64 lo, .int .i64 hi, .bool (!nt)] 32)) (.cells #[.int .i64 0, .int .i64 0, .int .i64 p, .int .i64 0] 24)
          have m3 := keepCell A1 g3
          have m0 := keepCell A3 (keepCell A2 g0)
          have mj := keepCell A3 (keepCell A2 (KP5.out.c 2 rfl))
          have H7 := Lib.hid (chain (chain H5.out A2 H5.out.size) A4 (chain H5.out A2 H5.out.size).size)
          have KT7 := Lib.hid ((KT5.out.below A2).below A4)
          have KP7 := Lib.hid ((KP5.out.below A2).below A4)
          have KU7 := Lib.hid ((Blk.new w5 #[.int .i64 2, .int .i64 lo, .int .i64 hi, .bool (!nt)] 32).below A4)
          have kq7 := Blk.new (w5.alloc (.cells #[.int .i64 2, .int .i64 lo, .int .i64 hi, .bool (!nt)] 32)) #[.int .i64 0, .int .i64 0, .int .i64 p, .int .i64 0] 24
          rw [World.size_alloc] at kq7
          have KQ7 := Lib.hid kq7
          clear A1 A2 A3 A4 kq7 H5 KT5 KP5
          go_upto_region 20 with fail
          clear g0 g1 g2 g3 m0 m3 mj
          generalize hX : (w5.alloc (.cells #[.int .i64 2, .int .i64 lo, .int .i64 hi, .bool (!nt)] 32)).alloc (.cells #[.int .i64 0, .int .i64 0, .int .i64 p, .int .i64 0] 24) = X at H7 KT7 KP7 KU7 KQ7 ⊢
          have u0 := KU7.out.c 0 rfl
          have u1 := KU7.out.c 1 rfl
          have u2 := KU7.out.c 2 rfl
          have u3 := KU7.out.c 3 rfl
          have b0 := KP7.out.c 0 rfl
          have b1 := KP7.out.c 1 rfl
          have b2 := KP7.out.c 2 rfl
          have b3 := KP7.out.c 3 rfl
          go_wp2_with fail
          refine (tv_bool (iTestHolds_any 2 lo hi (!nt) f t p r _ (HT.out _ H7.out)) HN.out).mono ?_
          rintro e w8 ⟨rfl, hb8⟩
          have H8 := Lib.hid (chain H7.out hb8 H7.out.size)
          have KT8 := Lib.hid (KT7.out.below hb8)
          have KQ8 := Lib.hid (KQ7.out.below hb8)
          clear hb8 H7 KT7 KP7 KU7 KQ7 u0 u1 u2 u3 b0 b1 b2 b3 hX
          have g0 := KT8.out.c 0 rfl
          have g1 := KT8.out.c 1 rfl
          have g2 := KT8.out.c 2 rfl
          have g3 := KT8.out.c 3 rfl
          have q0 := KQ8.out.c 0 rfl
          have q1 := KQ8.out.c 1 rfl
          have q2 := KQ8.out.c 2 rfl
          have q3 := KQ8.out.c 3 rfl
          go_wp2_with fail
          refine (tv_bool (iTestHolds_any 2 lo hi nt 0 0 p 0 _ (HT.out _ H8.out)) HQ.out).mono ?_
          rintro e w9 ⟨rfl, hb9⟩
          have H9 := Lib.hid (chain H8.out hb9 H8.out.size)
          clear hb9
          go_wp2
          go_ret
          exact ⟨rfl, H9.out⟩
        · have HQ := Lib.hid (show thB 3 lo hi nt 0 0 0 r = v by rw [th_q3 HP.out, HV.out])
          have g0 := KT5.out.c 0 rfl
          have g1 := KT5.out.c 1 rfl
          have g2 := KT5.out.c 2 rfl
          have g3 := KT5.out.c 3 rfl
          have A1 := below_one w5 (.cells #[.int .i64 3, .int .i64 lo, .int .i64 hi, .bool nt] 32)
          have A2 := below_one w5 (.cells #[.int .i64 3, .int .i64 lo, .int .i64 hi, .bool (!nt)] 32)
          have A3 := below_one (w5.alloc (.cells #[.int .i64 3, .int .i64 lo, .int .i64 hi, .bool (!nt)] 32)) (.cells #[.int .i64 0, .int .i64 0, .int .i64 0, .int .i64 0] 24)
          have A4 := below_one (w5.alloc (.cells #[.int .i64 3, .int .i64 lo, .int .i64 hi, .bool (!nt)] 32)) (.cells #[.int .i64 0, .int .i64 0, .int .i64 0, .int .i64 r] 24)
          have m3 := keepCell A1 g3
          have m0 := keepCell A3 (keepCell A2 g0)
          have mj := keepCell A3 (keepCell A2 (KP5.out.c 3 rfl))
          have H7 := Lib.hid (chain (chain H5.out A2 H5.out.size) A4 (chain H5.out A2 H5.out.size).size)
          have KT7 := Lib.hid ((KT5.out.below A2).below A4)
          have KP7 := Lib.hid ((KP5.out.below A2).below A4)
          have KU7 := Lib.hid ((Blk.new w5 #[.int .i64 3, .int .i64 lo, .int .i64 hi, .bool (!nt)] 32).below A4)
          have kq7 := Blk.new (w5.alloc (.cells #[.int .i64 3, .int .i64 lo, .int .i64 hi, .bool (!nt)] 32)) #[.int .i64 0, .int .i64 0, .int .i64 0, .int .i64 r] 24
          rw [World.size_alloc] at kq7
          have KQ7 := Lib.hid kq7
          clear A1 A2 A3 A4 kq7 H5 KT5 KP5
          go_upto_region 20 with fail
          clear g0 g1 g2 g3 m0 m3 mj
          generalize hX : (w5.alloc (.cells #[.int .i64 3, .int .i64 lo, .int .i64 hi, .bool (!nt)] 32)).alloc (.cells #[.int .i64 0, .int .i64 0, .int .i64 0, .int .i64 r] 24) = X at H7 KT7 KP7 KU7 KQ7 ⊢
          have u0 := KU7.out.c 0 rfl
          have u1 := KU7.out.c 1 rfl
          have u2 := KU7.out.c 2 rfl
          have u3 := KU7.out.c 3 rfl
          have b0 := KP7.out.c 0 rfl
          have b1 := KP7.out.c 1 rfl
          have b2 := KP7.out.c 2 rfl
          have b3 := KP7.out.c 3 rfl
          go_wp2_with fail
          refine (tv_bool (iTestHolds_any 3 lo hi (!nt) f t p r _ (HT.out _ H7.out)) HN.out).mono ?_
          rintro e w8 ⟨rfl, hb8⟩
          have H8 := Lib.hid (chain H7.out hb8 H7.out.size)
          have KT8 := Lib.hid (KT7.out.below hb8)
          have KQ8 := Lib.hid (KQ7.out.below hb8)
          clear hb8 H7 KT7 KP7 KU7 KQ7 u0 u1 u2 u3 b0 b1 b2 b3 hX
          have g0 := KT8.out.c 0 rfl
          have g1 := KT8.out.c 1 rfl
          have g2 := KT8.out.c 2 rfl
          have g3 := KT8.out.c 3 rfl
          have q0 := KQ8.out.c 0 rfl
          have q1 := KQ8.out.c 1 rfl
          have q2 := KQ8.out.c 2 rfl
          have q3 := KQ8.out.c 3 rfl
          go_wp2_with fail
          refine (tv_bool (iTestHolds_any 3 lo hi nt 0 0 0 r _ (HT.out _ H8.out)) HQ.out).mono ?_
          rintro e w9 ⟨rfl, hb9⟩
          have H9 := Lib.hid (chain H8.out hb9 H8.out.size)
          clear hb9
          go_wp2
          go_ret
          exact ⟨rfl, H9.out⟩
  · have hn1 : (1048576 : Int) < n := by omega
    clear hn
    go_enter Tryd.func10, Tryd.ntmps10
    go_wp2
    go_ret
    exact ⟨rfl, Below.refl _ _⟩
end Go.Proofs.YtoapnjlpmjcloaaDoor
