/-
  THE WALK of the law FnPacketNumber.
-/
import Derived.Test.YtipmnoojnfegjaaDoorDrPk
import Derived.Test.YtipmnoojnfegjaaDoorPkEq
import Derived.Test.YtipmnoojnfegjaaDoorIHave
import Derived.Test.YtipmnoojnfegjaaDoorTspansB
namespace Go.Proofs.YtipmnoojnfegjaaDoor
open Go.ChangeShapes Go.WideShapes Go.ChangeAt Go.RowKit Go.Sort Pf

theorem tv_int {P : Program} {F : FuncId} {args : Array Value} {w : World} {a b : Int} (h : Calls P F args w fun e w' => e = .returned (.int .i64 a) ∧ Below w.heap.size w w') (e : a = b) : Calls P F args w fun e w' => e = .returned (.int .i64 b) ∧ Below w.heap.size w w' := e ▸ h

set_option maxHeartbeats 2000000 in
theorem walkFnPacketNumber (A : Option Addr) (n c : Nat) (zs : List Int) (w : World) (hT : Tab w) (h : Rb w A n c zs) :
    Calls Tryd.prog 10 #[.slice A n c] w fun e w' => e = .returned (.bool true) ∧ Below w.heap.size w w' := by
  have hmax : n ≤ maxLen := Nat.le_trans h.2.1 h.2.2.1
  unfold maxLen at hmax
  have CD := Lib.hid (drawPacketNumber_any A n c zs w h)
  have HT := Lib.hid (fun W (hW : Below w.heap.size w W) => hT.below hW)
  clear h hT
  by_cases hn : n ≤ 1048576
  · have hn1 : (n : Int) ≤ 1048576 := by omega
    clear hn
    go_enter Tryd.func10, Tryd.ntmps10
    go_wp2_with fail
    refine (CD.out).mono ?_
    rintro e w1 ⟨f, t, p, r, rfl, hb1⟩
    have H1 := Lib.hid (chain hb1 (below_one w1 (.cells #[.int .i64 f, .int .i64 t, .int .i64 p, .int .i64 r] 34)) hb1.size)
    have K1 := Lib.hid (Blk.new w1 #[.int .i64 f, .int .i64 t, .int .i64 p, .int .i64 r] 34)
    obtain ⟨v, hv⟩ : ∃ v, pnF f t p r = v := ⟨_, rfl⟩
    have HV := Lib.hid hv
    have hne : (v != v) = false := by simp
    clear hb1 CD hv
    go_wp2_with fail
    refine (tv_int (iPacketNumber_any f t p r _ (HT.out _ H1.out)) HV.out).mono ?_
    rintro e w2 ⟨rfl, hb2⟩
    have H2 := Lib.hid (chain H1.out hb2 H1.out.size)
    have K2 := Lib.hid (K1.out.below hb2)
    clear hb2 H1 K1
    have c0 := K2.out.c 0 rfl
    have c1 := K2.out.c 1 rfl
    have c2 := K2.out.c 2 rfl
    have c3 := K2.out.c 3 rfl
    go_wp2_with fail
    refine (tv_int (sPacketNumber_any f t p r _) HV.out).mono ?_
    rintro e w3 ⟨rfl, hb3⟩
    have H3 := Lib.hid (chain H2.out hb3 H2.out.size)
    have K3 := Lib.hid (K2.out.below hb3)
    clear c0 c1 c2 c3 hb3 H2 K2
    cases hk : pkB f t p r with
    | false =>
      have hv : v = -1 := by rw [← HV.out, pn_bad hk]
      subst hv
      clear hk HV
      go_wp2_with fail
      refine (alive_any _).mono ?_
      rintro e w4 ⟨rfl, hb4⟩
      have H4 := Lib.hid (chain H3.out hb4 H3.out.size)
      clear hb4
      go_wp2
      go_ret
      exact ⟨rfl, H4.out⟩
    | true =>
      obtain ⟨v0, vi⟩ := pn_bd hk
      have hf := from_number hk
      rw [HV.out] at v0 vi hf
      have CF := Lib.hid (fun W (hW : Below w.heap.size w W) => hf ▸ iPacketFrom_any v vi W (HT.out W hW))
      have hv0 : ¬ v < 0 := by omega
      have hv1 : (v == -1) = false := by simp; omega
      clear hk vi hf
      go_wp2_with fail
      refine (CF.out _ H3.out).mono ?_
      rintro e w4 ⟨rfl, hb4⟩
      have H4 := Lib.hid (chain H3.out hb4 H3.out.size)
      have K4 := Lib.hid (K3.out.below hb4)
      clear hb4
      have c0 := K4.out.c 0 rfl
      have c1 := K4.out.c 1 rfl
      have c2 := K4.out.c 2 rfl
      have c3 := K4.out.c 3 rfl
      have A8 := below_one w4 (.cells #[.int .i64 f, .int .i64 t, .int .i64 p, .int .i64 r] 34)
      have m0 := keepCell A8 c0
      have m1 := keepCell A8 c1
      have m2 := keepCell A8 c2
      have m3 := keepCell A8 c3
      have H5 := Lib.hid (chain H4.out A8 H4.out.size)
      have hgd := pktGuard
      have hrun := fun W => (eq_pkt f t p r f t p r W).trans (by rw [show eq4 f t p r f t p r = true by simp [eq4]])
      clear A8
      go_wp2
      go_ret
      exact ⟨rfl, H5.out⟩
  · have hn1 : (1048576 : Int) < n := by omega
    clear hn
    go_enter Tryd.func10, Tryd.ntmps10
    go_wp2
    go_ret
    exact ⟨rfl, Below.refl _ _⟩
end Go.Proofs.YtipmnoojnfegjaaDoor
