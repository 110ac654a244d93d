/-
  THE WALK of the law FnPacketFrom.
-/
import Derived.Test.YtoapnjlpmjcloaaDoorDrPfrom
import Derived.Test.YtoapnjlpmjcloaaDoorPkEq
import Derived.Test.YtoapnjlpmjcloaaDoorIHave
import Derived.Test.YtoapnjlpmjcloaaDoorTspansB
namespace Go.Proofs.YtoapnjlpmjcloaaDoor
open Go.ChangeShapes Go.WideShapes Go.ChangeAt Go.RowKit Go.Sort Pf

theorem from_pn {n : Int} (h : fromOk n = true) : ∃ x y z u : Int, fromV n = .tuple #[.agg #[.int .i64 x, .int .i64 y, .int .i64 z, .int .i64 u], .bool true] ∧ pnF x y z u = n := by
  have h' := h
  simp only [fromOk, Bool.and_eq_true, decide_eq_true_eq] at h
  refine ⟨_, _, _, _, by unfold fromV; rw [h'], ?_⟩
  unfold pnF
  rw [if_pos (pkB_true (by omega))]
  omega
theorem from_no {n : Int} (h : fromOk n = false) : fromV n = .tuple #[.agg #[.int .i64 0, .int .i64 0, .int .i64 0, .int .i64 0], .bool false] := by unfold fromV; rw [h]

set_option maxHeartbeats 2000000 in
theorem walkFnPacketFrom (A : Option Addr) (n c : Nat) (zs : List Int) (w : World) (hT : Tab w) (h : Rb w A n c zs) :
    Calls Tryd.prog 5 #[.slice A n c] w fun e w' => e = .returned (.bool true) ∧ Below w.heap.size w w' := by
  have hmax : n ≤ maxLen := Nat.le_trans h.2.1 h.2.2.1
  unfold maxLen at hmax
  have CD := Lib.hid (drawPacketFrom_any A n c zs w h)
  have HT := Lib.hid (fun W (hW : Below w.heap.size w W) => hT.below hW)
  clear h hT
  by_cases hn : n ≤ 1048576
  · have hn1 : (n : Int) ≤ 1048576 := by omega
    clear hn
    go_enter Tryd.func5, Tryd.ntmps5
    go_wp2_with fail
    refine (CD.out).mono ?_
    rintro e w1 ⟨m, rfl, mi, hb1⟩
    have H1 := Lib.hid hb1
    clear hb1 CD
    have CI := fun W (hW : Below w.heap.size w W) => iPacketFrom_any m mi W (HT.out W hW)
    have CS := fun W => sPacketFrom_any m mi W
    have hgd := pktGuard
    cases hk : fromOk m with
    | false =>
      rw [from_no hk] at CI CS
      have CI := Lib.hid CI
      have CS := Lib.hid CS
      have hrun := fun W => (neq_pkt 0 0 0 0 0 0 0 0 W).trans (by rw [show (!eq4 0 0 0 0 0 0 0 0) = false by rfl])
      have hrun2 := fun W => (eq_pkt 0 0 0 0 0 0 0 0 W).trans (by rw [show eq4 0 0 0 0 0 0 0 0 = true by rfl])
      clear hk mi
      go_wp2_with fail
      refine (CI.out _ H1.out).mono ?_
      rintro e w2 ⟨rfl, hb2⟩
      have H2 := Lib.hid (chain H1.out hb2 H1.out.size)
      have hx := below_one w2 (.cells #[.int .i64 0, .int .i64 0, .int .i64 0, .int .i64 0] 24)
      have H3 := Lib.hid (chain H2.out hx H2.out.size)
      have K3 := Lib.hid (Blk.new w2 #[.int .i64 0, .int .i64 0, .int .i64 0, .int .i64 0] 24)
      clear hb2 H1 hx H2
      go_wp2_with fail
      refine (CS.out _).mono ?_
      rintro e w4 ⟨rfl, hb4⟩
      have hx := below_one w4 (.cells #[.int .i64 0, .int .i64 0, .int .i64 0, .int .i64 0] 24)
      have H4 := Lib.hid (chain H3.out hb4 H3.out.size)
      have H5 := Lib.hid (chain H4.out hx H4.out.size)
      have K5 := (K3.out.below hb4).below hx
      have c0 := K5.c 0 rfl
      have c1 := K5.c 1 rfl
      have c2 := K5.c 2 rfl
      have c3 := K5.c 3 rfl
      clear hb4 H3 hx H4 K3 K5
      go_wp2_with fail
      refine (alive_any _).mono ?_
      rintro e w6 ⟨rfl, hb6⟩
      have H6 := Lib.hid (chain H5.out hb6 H5.out.size)
      clear hb6 c0 c1 c2 c3
      go_wp2
      go_ret
      exact ⟨rfl, H6.out⟩
    | true =>
      obtain ⟨x, y, z, u, hf, hp⟩ := from_pn hk
      rw [hf] at CI CS
      have CI := Lib.hid CI
      have CS := Lib.hid CS
      have hrun := fun W => (neq_pkt x y z u x y z u W).trans (by rw [show (!eq4 x y z u x y z u) = false by simp [eq4]])
      have HP := Lib.hid hp
      have hmm : (m == m) = true := by simp
      clear hk hf hp mi
      go_wp2_with fail
      refine (CI.out _ H1.out).mono ?_
      rintro e w2 ⟨rfl, hb2⟩
      have H2 := Lib.hid (chain H1.out hb2 H1.out.size)
      have hx := below_one w2 (.cells #[.int .i64 x, .int .i64 y, .int .i64 z, .int .i64 u] 24)
      have H3 := Lib.hid (chain H2.out hx H2.out.size)
      have K3 := Lib.hid (Blk.new w2 #[.int .i64 x, .int .i64 y, .int .i64 z, .int .i64 u] 24)
      clear hb2 H1 hx H2
      go_wp2_with fail
      refine (CS.out _).mono ?_
      rintro e w4 ⟨rfl, hb4⟩
      have hx := below_one w4 (.cells #[.int .i64 x, .int .i64 y, .int .i64 z, .int .i64 u] 24)
      have H4 := Lib.hid (chain H3.out hb4 H3.out.size)
      have H5 := Lib.hid (chain H4.out hx H4.out.size)
      have K5 := (K3.out.below hb4).below hx
      have c0 := K5.c 0 rfl
      have c1 := K5.c 1 rfl
      have c2 := K5.c 2 rfl
      have c3 := K5.c 3 rfl
      clear hb4 H3 hx H4 K3 K5
      go_wp2_with fail
      refine (tv_int (iPacketNumber_any x y z u _ (HT.out _ H5.out)) HP.out).mono ?_
      rintro e w6 ⟨rfl, hb6⟩
      have H6 := Lib.hid (chain H5.out hb6 H5.out.size)
      clear hb6 c0 c1 c2 c3
      go_wp2
      go_ret
      exact ⟨rfl, H6.out⟩
  · have hn1 : (1048576 : Int) < n := by omega
    clear hn
    go_enter Tryd.func5, Tryd.ntmps5
    go_wp2
    go_ret
    exact ⟨rfl, Below.refl _ _⟩
end Go.Proofs.YtoapnjlpmjcloaaDoor
