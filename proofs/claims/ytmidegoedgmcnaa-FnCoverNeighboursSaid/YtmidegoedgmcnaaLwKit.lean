/-
  WORDS FOR THE WALKS OF LAWS: contracts at values that are known; a range that the law lays itself.
-/
import Derived.Test.YtmidegoedgmcnaaOwn
import Derived.Test.YtmidegoedgmcnaaSame
namespace Go.Proofs.Ytmidegoedgmcnaa
open Go.ChangeShapes Go.WideShapes Go.ChangeAt Go.RowKit Go.Sort Pf

section
variable {P : Program} {F : FuncId} {args : Array Value} {w : World}
theorem owns_as {T : TypeId} {X Y : PS} (h : Calls P F args w (Owns T X w)) (e : X = Y) : Calls P F args w (Owns T Y w) := e ▸ h
theorem bool_as {a b : Bool} (h : Calls P F args w fun e w' => e = .returned (.bool a) ∧ Below w.heap.size w w') (e : a = b) : Calls P F args w fun e w' => e = .returned (.bool b) ∧ Below w.heap.size w w' := e ▸ h
theorem int_as {a b : Int} (h : Calls P F args w fun e w' => e = .returned (.int .i64 a) ∧ Below w.heap.size w w') (e : a = b) : Calls P F args w fun e w' => e = .returned (.int .i64 b) ∧ Below w.heap.size w w' := e ▸ h
end
theorem same_yes {A : Option Addr} {n c : Nat} {xs : PS} {B : Option Addr} {m d : Nat} {ys : PS} {w : World} (h : Rd w A n c xs) (h' : Rd w B m d ys) (e : xs = ys) :
    Calls Try.prog 12 #[.slice A n c, .slice B m d] w fun e w' => e = .returned (.bool true) ∧ Below w.heap.size w w' :=
  bool_as (sameSpans_any A n c xs B m d ys w h h') (by rw [decide_eq_true e])
theorem same_no {A : Option Addr} {n c : Nat} {xs : PS} {B : Option Addr} {m d : Nat} {ys : PS} {w : World} (h : Rd w A n c xs) (h' : Rd w B m d ys) (e : ¬ xs = ys) :
    Calls Try.prog 12 #[.slice A n c, .slice B m d] w fun e w' => e = .returned (.bool false) ∧ Below w.heap.size w w' :=
  bool_as (sameSpans_any A n c xs B m d ys w h h') (by rw [decide_eq_false e])
/-- A range that has just been laid. -/
theorem Rd.one {w : World} {t : TypeId} (x y : Int) : Rd (w.alloc (.cells #[.int .i64 x, .int .i64 y] t)) (some ⟨w.heap.size, 0, none⟩) 1 1 [(x, y)] :=
  own_rd (t := t) (xs := [(x, y)]) (World.ownsRow_lit (e := t) (size := 2) w #[.int .i64 x, .int .i64 y] 1 (Nat.le_refl _) (by unfold maxLen; omega) rfl)
/-- Part of a list. -/
theorem Rd.take {w : World} {A : Option Addr} {n c k : Nat} {xs : PS} (h : Rd w A n c xs) (hk : k ≤ n) : Rd w A k c (xs.take k) := by
  obtain ⟨h1, h2, h3, h4⟩ := h
  refine ⟨by rw [List.length_take]; omega, by omega, h3, fun hk0 => ?_⟩
  obtain ⟨b, o, e, hb, hc⟩ := h4 (by omega)
  refine ⟨b, o, e, hb, fun j x hx => hc j x ?_⟩
  rw [List.getElem?_take] at hx
  split at hx
  · exact hx
  · cases hx
end Go.Proofs.Ytmidegoedgmcnaa
