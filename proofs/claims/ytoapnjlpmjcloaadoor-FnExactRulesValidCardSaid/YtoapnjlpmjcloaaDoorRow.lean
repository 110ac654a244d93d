/-
  WORDS FOR SEVERAL OWN SLICES AT ONCE: 'Row lo hi': a slice of structs of two ints in a row of its own, its block in lo .. hi - 1. No program in sight.
-/
import Derived.Test.YtoapnjlpmjcloaaDoorOwn
namespace Go.Proofs.YtoapnjlpmjcloaaDoor
open Go.ChangeShapes Go.WideShapes Go.ChangeAt Go.RowKit Go.Deep Pf

def Row (lo hi : Nat) (t : TypeId) (w : World) (A : Option Addr) (n c : Nat) (xs : PS) : Prop :=
  w.ownsRow lo t 2 (.slice A n c) n (flat xs) ∧ ∀ g, (Value.slice A n c).ownBlock = some g → g < hi

section
variable {w w' : World} {lo hi n c lo2 hi2 m d : Nat} {t t2 : TypeId} {A B : Option Addr} {xs ys : PS}
theorem row_new (h : w'.ownsRow w.heap.size t 2 (.slice A n c) n (flat xs)) : Row w.heap.size w'.heap.size t w' A n c xs := ⟨h, fun g hg => (h.lt g hg).2⟩
theorem Row.own (h : Row lo hi t w A n c xs) : w.ownsRow lo t 2 (.slice A n c) n (flat xs) := h.1
theorem Row.rd (h : Row lo hi t w A n c xs) : Rd w A n c xs := own_rd h.1
theorem Row.below (h : Row lo hi t w A n c xs) (hb : Below w.heap.size w w') : Row lo hi t w' A n c xs := ⟨own_below h.1 hb, h.2⟩
theorem Row.other (h : Row lo hi t w A n c xs) (r : Row lo2 hi2 t2 w B m d ys) (hg : w.grownBy w' (Value.slice B m d).ownBlock) (hd : hi ≤ lo2 ∨ hi2 ≤ lo) : Row lo hi t w' A n c xs := by
  refine ⟨h.1.kept hg ?_, h.2⟩
  cases hA : (Value.slice A n c).ownBlock with
  | none => exact .inl rfl
  | some g =>
    right
    intro e
    have a1 := (h.1.lt g hA).1
    have a2 := h.2 g hA
    have b1 := (r.1.lt g e.symm).1
    have b2 := r.2 g e.symm
    omega
theorem Row.turned (r : Row lo hi t w A n c xs) (h : w'.ownsRow lo t 2 (.slice A n c) n (flat ys)) : Row lo hi t w' A n c ys := ⟨h, r.2⟩
theorem below_turned {b : Nat} {a : World} (H : Below b a w) (r : Row lo hi t w A n c xs) (hg : w.grownBy w' (Value.slice A n c).ownBlock) (hs : b ≤ w.heap.size) (hb : b ≤ lo) : Below b a w' :=
  H.grown hg hs fun k hk => Nat.le_trans hb (r.1.lt k hk).1
theorem row_none (h : Row lo hi t w A n c xs) : A = none → c = 0 := by
  intro e
  rcases own_form h.1 with ⟨_, _, hc⟩ | ⟨g, hA, _⟩
  · exact hc
  · rw [e] at hA; cases hA
theorem Row.len (h : Row lo hi t w A n c xs) : xs.length = n := h.rd.len
end
end Go.Proofs.YtoapnjlpmjcloaaDoor
