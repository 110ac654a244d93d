/-
  WALK: spec.l20Top.
-/
import Derived.Test.YtbonkolgbcmaoaaDrSet
namespace Go.Proofs.Ytbonkolgbcmaoaa
open Go.ChangeShapes Go.WideShapes Go.ChangeAt Go.RowKit Go.Sort Pf

/-- The number that is read out of the literal. -/
theorem lit_new4 {w3 w2 : World} {g F k : Nat} {t : TypeId} (hg : (w3.alloc (.cells #[.int .i64 20, .int .i64 7, .int .i64 255, .int .i64 65535] t)).grownBy w2 (some g)) (hr : Rdr w3 g F) (hk : k < 4) : ∃ x, TopIn x ∧ w2.cell? ⟨w3.heap.size, k, none⟩ = some (.int .i64 x) := by
  have hne : (some g : Option Nat) ≠ some w3.heap.size := by have := hr.lt; simp; omega
  match k, hk with
  | 0, _ => exact ⟨20, .inl rfl, grown_cell hg (by go_cell) hne⟩
  | 1, _ => exact ⟨7, .inr (.inl rfl), grown_cell hg (by go_cell) hne⟩
  | 2, _ => exact ⟨255, .inr (.inr (.inl rfl)), grown_cell hg (by go_cell) hne⟩
  | 3, _ => exact ⟨65535, .inr (.inr (.inr rfl)), grown_cell hg (by go_cell) hne⟩

set_option maxHeartbeats 1000000 in
theorem drTop_any (g f : Nat) (w : World) (h : Rdr w g (f + 1)) :
    Calls Try.prog 53 #[.pointer (some ⟨g, 0, none⟩)] w (DrewInt TopIn g f w) := by
  have hgw := h.lt
  have HR := Lib.hid h
  clear h
  go_enter Try.func53, Try.ntmps53
  go_wp2_with fail
  refine (pick_any g _ f 4 _ (HR.out.alloc _) rfl).mono ?_
  intro e w1 hp
  obtain ⟨v, rfl, hv0, hv1, hg1, hr1⟩ := picked_lt (by omega) hp
  clear hp
  obtain ⟨k, rfl⟩ := Int.eq_ofNat_of_zero_le hv0
  have hk4 : k < 4 := by omega
  obtain ⟨x, hx, hcell⟩ := lit_new4 hg1 HR.out hk4
  have hX := Lib.hid hx
  have HG := Lib.hid (grownBy_trans (below_grown (below_one w _)) hg1)
  clear hg1 HR hx
  go_wp2
  go_ret
  exact ⟨x, rfl, hX.out, HG.out, hr1⟩
end Go.Proofs.Ytbonkolgbcmaoaa
