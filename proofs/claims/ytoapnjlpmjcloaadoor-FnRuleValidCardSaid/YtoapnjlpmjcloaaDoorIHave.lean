/-
  WALKS: impl.SpansHave: 'memB'; laws.alive: true.
-/
import Derived.Test.YtoapnjlpmjcloaaDoorRows
import Derived.Test.YtoapnjlpmjcloaaDoorMem
import Derived.Test.YtoapnjlpmjcloaaDoorOwn
import Derived.WalkLawsBesides
import Derived.BigQuiet
import Derived.Deep.QuietTactic
import Derived.Lib.QuietBelow
import Derived.Deep.RegionWith
import Derived.Outline
import Derived.Handy
namespace Go.Proofs.YtoapnjlpmjcloaaDoor
open Go.ChangeShapes Go.WideShapes Go.ChangeAt Go.RowKit Go.Sort Pf


set_option maxHeartbeats 400000 in
theorem iSpansHave_any (A : Option Addr) (n c : Nat) (xs : PS) (v : Int) (w : World) (h : Rd w A n c xs) :
    Calls Tryd.prog 56 #[.slice A n c, .int .i64 v] w fun e w' => e = .returned (.bool (memB v xs)) ∧ Below w.heap.size w w' := by
  have hlen := h.len
  have hmax : n ≤ maxLen := Nat.le_trans h.2.1 h.2.2.1
  unfold maxLen at hmax
  have HLEN := Lib.hid hlen
  clear hlen
  go_enter Tryd.func56, Tryd.ntmps56
  go_wp2
  go_loopw [9] (fun i wr => ∃ k : Nat, k ≤ n ∧ i = .int .i64 k ∧ memB v xs = memB v (xs.drop k) ∧ Below w.heap.size w wr) (fun i _ => n - (intOf i).toNat)
  case atStart => exact ⟨0, Nat.zero_le _, rfl, rfl, Below.refl _ _⟩
  case round =>
    obtain ⟨k, hk, rfl, hm, hb⟩ := hrel
    by_cases hkn : k < n
    · obtain ⟨b, o, rfl, hbl, hc0⟩ := (h.below hb).at_ hkn
      have hlx : k < xs.length := by have := HLEN.out; omega
      obtain ⟨c1, c2⟩ := hc0 hlx
      have hd : xs.drop k = xs[k] :: xs.drop (k + 1) := List.drop_eq_getElem_cons hlx
      rw [hd] at hm
      obtain ⟨x, hx⟩ : ∃ x, x = xs[k] := ⟨_, rfl⟩
      rw [← hx] at c1 c2 hm
      obtain ⟨x1, x2⟩ := x
      simp only at c1 c2
      have HM := Lib.hid hm
      have hs := hb.size
      clear hc0 hx h hd hm
      by_cases hin : x1 ≤ v ∧ v ≤ x2
      · obtain ⟨i1, i2⟩ := hin
        go_wp2
        go_ret
        refine ⟨ret_bool ?_, hb.alloc hs _⟩
        rw [HM.out, memB_cons, inB_iff.2 ⟨i1, i2⟩]
        rfl
      · have hni : inB v (x1, x2) = false := by
          rw [← Bool.not_eq_true, inB_iff]; exact hin
        have HNI := Lib.hid hni
        clear hni
        go_wp2
        all_goals
          first
            | (exfalso; omega)
            | (go_roundw
               case rel => exact ⟨k + 1, by omega, by go_num, by rw [HM.out, memB_cons, HNI.out]; rfl, hb.alloc hs _⟩
               case measure => simp [intOf]; omega)
    · obtain rfl : k = n := by omega
      rw [List.drop_of_length_le (by have := HLEN.out; omega)] at hm
      have HM := Lib.hid hm
      clear h hm
      go_wp2
      go_ret
      exact ⟨ret_bool (by rw [HM.out]; rfl), hb⟩

set_option maxHeartbeats 400000 in
theorem alive_any (w : World) : Calls Tryd.prog 17 #[] w fun e w' => e = .returned (.bool true) ∧ Below w.heap.size w w' := by
  have own0 := World.ownsRow_lit (e := 87) (size := 2) w #[.int .i64 2, .int .i64 4] 1 (Nat.le_refl _) (by unfold maxLen; omega) rfl
  have C := Lib.hid (iSpansHave_any (some ⟨w.heap.size, 0, none⟩) 1 1 [(2, 4)] 3 _ (own_rd (xs := [(2, 4)]) own0))
  clear own0
  go_enter Tryd.func17, Tryd.ntmps17
  go_wp2_with fail
  refine (C.out).mono ?_
  rintro e w1 ⟨rfl, hb1⟩
  have H := chain (below_one w _) hb1 (by simp)
  clear hb1 C
  go_wp2
  go_ret
  exact ⟨rfl, H⟩
end Go.Proofs.YtoapnjlpmjcloaaDoor
