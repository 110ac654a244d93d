/-
  WALKS: laws.markPrefixS, heldPrefixS.
-/
import Derived.Test.YtmidegoedgmcnaaRows
import Derived.Test.YtmidegoedgmcnaaOwn
import Derived.WalkLawsBesides
import Derived.BigQuiet
import Derived.Deep.QuietTactic
import Derived.Lib.QuietBelow
import Derived.Outline
import Derived.Handy
namespace Go.Proofs.Ytmidegoedgmcnaa
open Go.ChangeShapes Go.WideShapes Go.ChangeAt Go.RowKit Go.Sort Pf

set_option maxHeartbeats 400000 in
theorem markPrefixS_any (A : Option Addr) (n c lo : Nat) (xs : PS) (k0 : Int) (h0 : 0 ≤ k0) (h1 : k0 + 2 * n ≤ 4611686018427387904) (w : World)
    (h : w.ownsRow lo 30 2 (.slice A n c) n (flat xs)) :
    Calls Try.prog 37 #[.slice A n c, .int .i64 k0] w fun e w' => e = .returned (.int .i64 (k0 + 2 * n)) ∧ w'.ownsRow lo 30 2 (.slice A n c) n (flat (marks k0 n)) ∧ w.grownBy w' (Value.slice A n c).ownBlock := by
  have hlen := (own_rd h).len
  have hms : (marks k0 n).length = xs.length := by rw [marks_length, hlen]
  have HLEN := Lib.hid hlen
  have HMS := Lib.hid hms
  clear hlen hms
  go_enter Try.func37, Try.ntmps37
  go_wp2
  go_loopw [1, 5] (fun q i wr => ∃ k : Nat, k ≤ n ∧ i = .int .i64 k ∧ q = .int .i64 (k0 + 2 * k) ∧ wr.ownsRow lo 30 2 (.slice A n c) n (flat (part (marks k0 n) xs k)) ∧ w.grownBy wr (Value.slice A n c).ownBlock)
    (fun _ i _ => n - (intOf i).toNat)
  case atStart => exact ⟨0, Nat.zero_le _, rfl, by go_num, by rw [part_zero]; exact h, World.grownBy.refl _ _⟩
  case round =>
    obtain ⟨k, hk, rfl, rfl, own, hg⟩ := hrel
    clear h
    by_cases hkn : k < n
    · obtain ⟨g, rfl, hg1, hg2⟩ : ∃ g, A = some ⟨g, 0, none⟩ ∧ lo ≤ g ∧ g < wr.heap.size := by
        rcases own_form own with ⟨_, hn, _⟩ | hf
        · omega
        · exact hf
      have hpl : k < (part (marks k0 n) xs k).length := by rw [part_length HMS.out (by rw [marks_length]; omega), marks_length]; omega
      have d1 := (own.cellAt (k * 2) (by omega)).trans (flat_fst _ k _ (List.getElem?_eq_getElem hpl))
      have d2 := (own.cellAt (k * 2 + 1) (by omega)).trans (flat_snd _ k _ (List.getElem?_eq_getElem hpl))
      generalize (part (marks k0 n) xs k)[k] = y at d1 d2
      have e1 := own.frozenAt (k * 2)
      have e2 := own.frozenAt (k * 2 + 1)
      have HO := Lib.hid own
      clear own hpl
      go_wp2
      go_roundw
      case rel =>
        have s1 := HO.out.stored (k * 2) (.int .i64 (k0 + 2 * k))
        have s2 := s1.1.stored (k * 2 + 1) (.int .i64 (k0 + 2 * k + 1))
        have hmk : k < (marks k0 n).length := by rw [marks_length]; exact hkn
        have s3 := s2.1
        rw [flat_set _ _ _ _ (by rw [part_length HMS.out (by omega), marks_length]; omega), ← marks_get k0 n k hmk, part_step HMS.out hmk] at s3
        exact ⟨k + 1, by omega, by go_num, by go_num, s3, grownBy_trans (grownBy_trans hg s1.2) s2.2⟩
      case measure => simp [intOf]; omega
    · obtain rfl : k = n := by omega
      have hp : part (marks k0 k) xs k = marks k0 k := by
        have := part_all HMS.out
        rwa [marks_length] at this
      rw [hp] at own
      have HO := Lib.hid own
      clear own hp
      go_wp2
      go_ret
      exact ⟨rfl, HO.out, hg⟩

set_option maxHeartbeats 400000 in
theorem heldPrefixS_any (A : Option Addr) (n c : Nat) (k0 : Int) (h0 : 0 ≤ k0) (h1 : k0 + 2 * n ≤ 4611686018427387904) (w : World) (h : Rd w A n c (marks k0 n)) :
    Calls Try.prog 40 #[.slice A n c, .int .i64 k0] w fun e w' => e = .returned (.int .i64 (k0 + 2 * n)) ∧ w = w' := by
  go_enter Try.func40, Try.ntmps40
  go_wp2
  go_loop [1, 5] (fun q i => ∃ k : Nat, k ≤ n ∧ i = .int .i64 k ∧ q = .int .i64 (k0 + 2 * k)) (fun _ i => n - (intOf i).toNat)
  case atStart => exact ⟨0, Nat.zero_le _, rfl, by go_num⟩
  case round =>
    obtain ⟨k, hk, rfl, rfl⟩ := hrel
    by_cases hkn : k < n
    · obtain ⟨b, o, rfl, hbl, hc0⟩ := h.at_ hkn
      have hmk : k < (marks k0 n).length := by rw [marks_length]; exact hkn
      obtain ⟨c1, c2⟩ := hc0 hmk
      rw [marks_get] at c1 c2
      simp only at c1 c2
      clear hc0 h
      go_wp2
      go_round
      case rel => exact ⟨k + 1, by omega, by go_num, by go_num⟩
      case measure => simp [intOf]; omega
    · obtain rfl : k = n := by omega
      clear h
      go_wp2
      go_ret
      exact ⟨rfl, rfl⟩

end Go.Proofs.Ytmidegoedgmcnaa
