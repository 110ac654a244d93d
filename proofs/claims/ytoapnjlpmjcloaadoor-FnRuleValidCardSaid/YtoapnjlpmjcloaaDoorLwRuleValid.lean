/-
  THE WALK of the law FnRuleValid.
-/
import Derived.Test.YtoapnjlpmjcloaaDoorDrRv
import Derived.Test.YtoapnjlpmjcloaaDoorRuleV
import Derived.Test.YtoapnjlpmjcloaaDoorIHave
import Derived.Test.YtoapnjlpmjcloaaDoorTspansB
namespace Go.Proofs.YtoapnjlpmjcloaaDoor
open Go.ChangeShapes Go.WideShapes Go.ChangeAt Go.RowKit Go.Sort Pf

set_option maxRecDepth 20000
set_option maxHeartbeats 2000000 in
theorem walkFnRuleValid (A : Option Addr) (n c : Nat) (zs : List Int) (w : World) (hT : Tab w) (h : Rb w A n c zs) :
    Calls Tryd.prog 9 #[.slice A n c] w fun e w' => e = .returned (.bool true) ∧ Below w.heap.size w w' := by
  have hmax : n ≤ maxLen := Nat.le_trans h.2.1 h.2.2.1
  unfold maxLen at hmax
  have CD := Lib.hid (drawRuleValid_any A n c zs w h)
  have HT := Lib.hid (fun W (hW : Below w.heap.size w W) => hT.below hW)
  clear h hT
  by_cases hn : n ≤ 1048576
  · have hn1 : (n : Int) ≤ 1048576 := by omega
    clear hn
    go_enter Tryd.func9, Tryd.ntmps9
    go_wp2_with fail
    refine (CD.out).mono ?_
    rintro e w1 ⟨b, cc, xs, a, ch, rfl, hr1, hb1⟩
    have hx := below_one w1 (.cells #[.slice (some ⟨b, 0, none⟩) xs.length cc, .int .i64 a, .int .i64 ch] 48)
    have H1 := Lib.hid (chain hb1 hx hb1.size)
    have K1 := Lib.hid (Blk.new w1 #[.slice (some ⟨b, 0, none⟩) xs.length cc, .int .i64 a, .int .i64 ch] 48)
    have R1 := Lib.hid (hr1.below hx)
    obtain ⟨v, hv⟩ : ∃ v, rvB xs a ch = v := ⟨_, rfl⟩
    have HV := Lib.hid hv
    have hne : (v != v) = false := by simp
    clear hb1 CD hv hx hr1
    have c0 := K1.out.c 0 rfl
    have c1 := K1.out.c 1 rfl
    have c2 := K1.out.c 2 rfl
    go_wp2_with fail
    refine (tv_bool (iRuleValid_any _ _ cc xs a ch _ R1.out (HT.out _ H1.out)) HV.out).mono ?_
    rintro e w2 ⟨rfl, hb2⟩
    have H2 := Lib.hid (chain H1.out hb2 H1.out.size)
    have K2 := Lib.hid (K1.out.below hb2)
    have R2 := Lib.hid (R1.out.below hb2)
    clear hb2 H1 K1 R1 c0 c1 c2
    have c0 := K2.out.c 0 rfl
    have c1 := K2.out.c 1 rfl
    have c2 := K2.out.c 2 rfl
    go_wp2_with fail
    refine (tv_bool (sRuleValid_any _ _ cc xs a ch _ R2.out) HV.out).mono ?_
    rintro e w3 ⟨rfl, hb3⟩
    have H3 := Lib.hid (chain H2.out hb3 H2.out.size)
    have K3 := Lib.hid (K2.out.below hb3)
    have R3 := Lib.hid (R2.out.below hb3)
    clear c0 c1 c2 hb3 H2 K2 R2
    have c0 := K3.out.c 0 rfl
    have c1 := K3.out.c 1 rfl
    have c2 := K3.out.c 2 rfl
    have A8 := below_one w3 (.cells #[.slice (some ⟨b, 0, none⟩) xs.length cc, .int .i64 6, .int .i64 ch] 48)
    have B8 := below_one (w3.alloc (.cells #[.slice (some ⟨b, 0, none⟩) xs.length cc, .int .i64 6, .int .i64 ch] 48)) (.cells #[.slice (some ⟨b, 0, none⟩) xs.length cc, .int .i64 2, .int .i64 1] 48)
    have AB := chain H3.out A8 H3.out.size
    have H5 := Lib.hid (chain AB B8 AB.size)
    have KA := Lib.hid ((Blk.new w3 #[.slice (some ⟨b, 0, none⟩) xs.length cc, .int .i64 6, .int .i64 ch] 48).below B8)
    have KB := Lib.hid (Blk.new (w3.alloc (.cells #[.slice (some ⟨b, 0, none⟩) xs.length cc, .int .i64 6, .int .i64 ch] 48)) #[.slice (some ⟨b, 0, none⟩) xs.length cc, .int .i64 2, .int .i64 1] 48)
    have R5 := Lib.hid ((R3.out.below A8).below B8)
    have m0 := keepCell A8 c0
    have m1 := keepCell A8 c1
    have m2 := keepCell A8 c2
    have k0 := KA.out.c 0 rfl
    have k1 := KA.out.c 1 rfl
    have k2 := KA.out.c 2 rfl
    have EA := Lib.hid (show rvB xs 6 ch = false by simp [rvB])
    have EB := Lib.hid (show rvB xs 2 1 = false by simp [rvB])
    clear A8 B8 AB H3 K3 R3
    go_wp2_with fail
    refine (tv_bool (iRuleValid_any _ _ cc xs 6 ch _ R5.out (HT.out _ H5.out)) EA.out).mono ?_
    rintro e w6 ⟨rfl, hb6⟩
    have H6 := Lib.hid (chain H5.out hb6 H5.out.size)
    have K6 := KB.out.below hb6
    simp only [World.size_alloc] at K6
    have K6 := Lib.hid K6
    have R6 := Lib.hid (R5.out.below hb6)
    clear c0 c1 c2 m0 m1 m2 k0 k1 k2 hb6 H5 KA KB R5
    have c0 := K6.out.c 0 rfl
    have c1 := K6.out.c 1 rfl
    have c2 := K6.out.c 2 rfl
    go_wp2_with fail
    refine (tv_bool (iRuleValid_any _ _ cc xs 2 1 _ R6.out (HT.out _ H6.out)) EB.out).mono ?_
    rintro e w7 ⟨rfl, hb7⟩
    have H7 := Lib.hid (chain H6.out hb7 H6.out.size)
    clear c0 c1 c2 hb7 K6
    go_wp2_with fail
    refine (alive_any _).mono ?_
    rintro e w8 ⟨rfl, hb8⟩
    have H8 := Lib.hid (chain H7.out hb8 H7.out.size)
    clear hb8
    go_wp2
    go_ret
    exact ⟨rfl, H8.out⟩
  · have hn1 : (1048576 : Int) < n := by omega
    clear hn
    go_enter Tryd.func9, Tryd.ntmps9
    go_wp2
    go_ret
    exact ⟨rfl, Below.refl _ _⟩
end Go.Proofs.YtoapnjlpmjcloaaDoor
