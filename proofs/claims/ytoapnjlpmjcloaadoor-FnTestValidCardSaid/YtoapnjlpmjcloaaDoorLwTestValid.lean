/-
  THE WALK of the law FnTestValid.
-/
import Derived.Test.YtoapnjlpmjcloaaDoorDrTv
import Derived.Test.YtoapnjlpmjcloaaDoorTst
import Derived.Test.YtoapnjlpmjcloaaDoorIHave
import Derived.Test.YtoapnjlpmjcloaaDoorTspansB
namespace Go.Proofs.YtoapnjlpmjcloaaDoor
open Go.ChangeShapes Go.WideShapes Go.ChangeAt Go.RowKit Go.Sort Pf

set_option maxHeartbeats 2000000 in
theorem walkFnTestValid (A : Option Addr) (n c : Nat) (zs : List Int) (w : World) (hT : Tab w) (h : Rb w A n c zs) :
    Calls Tryd.prog 4 #[.slice A n c] w fun e w' => e = .returned (.bool true) ∧ Below w.heap.size w w' := by
  have hmax : n ≤ maxLen := Nat.le_trans h.2.1 h.2.2.1
  unfold maxLen at hmax
  have CD := Lib.hid (drawTestValid_any A n c zs w h)
  have HT := Lib.hid (fun W (hW : Below w.heap.size w W) => hT.below hW)
  clear h hT
  by_cases hn : n ≤ 1048576
  · have hn1 : (n : Int) ≤ 1048576 := by omega
    clear hn
    go_enter Tryd.func4, Tryd.ntmps4
    go_wp2_with fail
    refine (CD.out).mono ?_
    rintro e w1 ⟨fl, lo, hi, nt, rfl, hb1⟩
    have H1 := Lib.hid (chain hb1 (below_one w1 (.cells #[.int .i64 fl, .int .i64 lo, .int .i64 hi, .bool nt] 32)) hb1.size)
    have K1 := Lib.hid (Blk.new w1 #[.int .i64 fl, .int .i64 lo, .int .i64 hi, .bool nt] 32)
    obtain ⟨v, hv⟩ : ∃ v, tsB fl lo hi = v := ⟨_, rfl⟩
    have HV := Lib.hid hv
    have hne : (v != v) = false := by simp
    clear hb1 CD hv
    go_wp2_with fail
    refine (tv_bool (iTestValid_any fl lo hi nt _ (HT.out _ H1.out)) HV.out).mono ?_
    rintro e w2 ⟨rfl, hb2⟩
    have H2 := Lib.hid (chain H1.out hb2 H1.out.size)
    have K2 := Lib.hid (K1.out.below hb2)
    clear hb2 H1 K1
    have c0 := K2.out.c 0 rfl
    have c1 := K2.out.c 1 rfl
    have c2 := K2.out.c 2 rfl
    have c3 := K2.out.c 3 rfl
    go_wp2_with fail
    refine (tv_bool (sTestValid_any fl lo hi nt _) HV.out).mono ?_
    rintro e w3 ⟨rfl, hb3⟩
    have H3 := Lib.hid (chain H2.out hb3 H2.out.size)
    have K3 := Lib.hid (K2.out.below hb3)
    clear c0 c1 c2 c3 hb3 H2 K2
    have c0 := K3.out.c 0 rfl
    have c1 := K3.out.c 1 rfl
    have c2 := K3.out.c 2 rfl
    have c3 := K3.out.c 3 rfl
    have A8 := below_one w3 (.cells #[.int .i64 4, .int .i64 lo, .int .i64 hi, .bool nt] 32)
    have B8 := below_one (w3.alloc (.cells #[.int .i64 4, .int .i64 lo, .int .i64 hi, .bool nt] 32)) (.cells #[.int .i64 fl, .int .i64 lo, .int .i64 65536, .bool nt] 32)
    have H5 := Lib.hid (chain (chain H3.out A8 H3.out.size) B8 (chain H3.out A8 H3.out.size).size)
    have KA := Lib.hid ((Blk.new w3 #[.int .i64 4, .int .i64 lo, .int .i64 hi, .bool nt] 32).below B8)
    have KB := Lib.hid (Blk.new (w3.alloc (.cells #[.int .i64 4, .int .i64 lo, .int .i64 hi, .bool nt] 32)) #[.int .i64 fl, .int .i64 lo, .int .i64 65536, .bool nt] 32)
    have m0 := keepCell A8 c0
    have m1 := keepCell A8 c1
    have m2 := keepCell A8 c2
    have m3 := keepCell A8 c3
    have k0 := KA.out.c 0 rfl
    have k1 := KA.out.c 1 rfl
    have k2 := KA.out.c 2 rfl
    have k3 := KA.out.c 3 rfl
    have ea : tsB 4 lo hi = false := by simp [tsB, inR]
    have eb : tsB fl lo 65536 = false := by
      cases h : tsB fl lo 65536 with
      | false => rfl
      | true =>
        obtain ⟨⟨h0, h1⟩, -, h2⟩ := tsB_iff.1 h
        have := (topF_bd h0 h1).2
        omega
    have EA := Lib.hid ea
    have EB := Lib.hid eb
    clear A8 B8 ea eb H3 K3
    go_wp2_with fail
    refine (tv_bool (iTestValid_any 4 lo hi nt _ (HT.out _ H5.out)) EA.out).mono ?_
    rintro e w6 ⟨rfl, hb6⟩
    have H6 := Lib.hid (chain H5.out hb6 H5.out.size)
    have K6 := KB.out.below hb6
    simp only [World.size_alloc] at K6
    have K6 := Lib.hid K6
    clear c0 c1 c2 c3 m0 m1 m2 m3 k0 k1 k2 k3 hb6 H5 KA KB
    have c0 := K6.out.c 0 rfl
    have c1 := K6.out.c 1 rfl
    have c2 := K6.out.c 2 rfl
    have c3 := K6.out.c 3 rfl
    go_wp2_with fail
    refine (tv_bool (iTestValid_any fl lo 65536 nt _ (HT.out _ H6.out)) EB.out).mono ?_
    rintro e w7 ⟨rfl, hb7⟩
    have H7 := Lib.hid (chain H6.out hb7 H6.out.size)
    clear c0 c1 c2 c3 hb7 K6
    go_wp2_with fail
    refine (alive_any _).mono ?_
    rintro e w8 ⟨rfl, hb8⟩
    have H8 := Lib.hid (chain H7.out hb8 H7.out.size)
    clear hb8
    go_wp2
    go_ret
    exact ⟨rfl, H8.out⟩
  · have hn1 : (1048576 : Int) < n := by omega
    clear hn
    go_enter Tryd.func4, Tryd.ntmps4
    go_wp2
    go_ret
    exact ⟨rfl, Below.refl _ _⟩
end Go.Proofs.YtoapnjlpmjcloaaDoor
