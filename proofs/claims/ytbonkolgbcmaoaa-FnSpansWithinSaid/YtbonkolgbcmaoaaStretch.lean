/-
  WALKS: impl.stretch, inEither, inBoth, inFirstOnly, limitSpans.
-/
import Derived.Test.YtbonkolgbcmaoaaRows
import Derived.Test.YtbonkolgbcmaoaaMem
import Derived.Test.YtbonkolgbcmaoaaSweepP
import Derived.WalkLawsBesides
import Derived.BigQuiet
import Derived.Deep.QuietTactic
import Derived.Outline
import Derived.Handy
namespace Go.Proofs.Ytbonkolgbcmaoaa
open Go.ChangeShapes Go.WideShapes Go.ChangeAt Go.RowKit Go.Sort Pf
set_option maxRecDepth 20000

theorem inFirstOnly_any (p q : Bool) (w : World) : Calls Try.prog 64 #[.bool p, .bool q] w fun e w' => e = .returned (.bool (p && !q)) ∧ w = w' := by
  cases p <;> cases q <;> (go_enter Try.func64, Try.ntmps64; go_wp2; go_ret; exact ⟨rfl, rfl⟩)

set_option maxHeartbeats 400000 in
theorem stretch_any (A : Option Addr) (n c : Nat) (xs : PS) (at_ top : Int) (w : World) (h : Rd w A n c xs) (hx : ∀ s, xs.head? = some s → 0 ≤ s.1 ∧ s.1 ≤ 65535) :
    Calls Try.prog 74 #[.slice A n c, .int .i64 at_, .int .i64 top] w fun e w' => e = .returned (.tuple #[.bool (stretchF at_ top xs).1, .int .i64 (stretchF at_ top xs).2]) ∧ Below w.heap.size w w' := by
  have hlen := h.len
  go_enter Try.func74, Try.ntmps74
  cases xs with
  | nil =>
    obtain rfl : n = 0 := by simpa using hlen.symm
    clear h hlen hx
    go_wp2
    refine bodyPost_ret (v := .tuple #[.bool false, .int .i64 top]) (by simp [results, Try.results74, go_sem]) rfl ⟨rfl, Below.refl _ _⟩
  | cons s r =>
    have hn : 0 < n := by simp at hlen; omega
    obtain ⟨b, o, rfl, hbl, hc0⟩ := h.at_ hn
    obtain ⟨c1, c2⟩ := hc0 (by simp)
    obtain ⟨x1, x2⟩ := s
    simp only [List.getElem_cons_zero, Nat.zero_mul, Nat.add_zero] at c1 c2
    have hx1 := hx _ rfl
    simp only at hx1
    have hq : IntKind.i64.wrap (x1 - 1) = x1 - 1 := IntWalk.i64_in _ (by omega)
    clear hc0 h hlen hx
    by_cases hlt : at_ < x1
    · go_wp2_with fail
      go_quiet (fail)
      clear hq
      go_wp2
      refine bodyPost_ret (v := .tuple #[.bool false, .int .i64 (x1 - 1)]) (by simp [results, Try.results74, go_sem]) rfl ⟨by simp [stretchF, show at_ < x1 from by omega], below_drewN (Below.refl _ _) _⟩
    · go_wp2_with fail
      go_quiet (fail)
      clear hq
      go_wp2
      refine bodyPost_ret (v := .tuple #[.bool true, .int .i64 x2]) (by simp [results, Try.results74, go_sem]) rfl ⟨by simp [stretchF, show ¬ at_ < x1 from by omega], below_drewN (Below.refl _ _) _⟩
end Go.Proofs.Ytbonkolgbcmaoaa
