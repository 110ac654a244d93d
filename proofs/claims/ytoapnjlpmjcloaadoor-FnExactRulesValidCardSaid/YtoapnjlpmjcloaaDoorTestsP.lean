/-
  PLAIN: lists of tests: valid, and holding together. No program in sight.
-/
import Derived.Test.YtoapnjlpmjcloaaDoorMemT
import Derived.Test.YtoapnjlpmjcloaaDoorTspP
namespace Go.Proofs.YtoapnjlpmjcloaaDoor
open Pf

def tOk (x : Tst) : Bool := tsB x.fl x.lo x.hi
def tvB (xs : TS) : Bool := decide (xs.length ≤ 6) && xs.all tOk
def tHolds (f t p r : Int) (x : Tst) : Bool := thB x.fl x.lo x.hi x.nt f t p r
def thsB (xs : TS) (f t p r : Int) : Bool := tvB xs && pkB f t p r && xs.all (tHolds f t p r)
theorem tv_take {xs : TS} (h : tvB xs = true) (k : Nat) : tvB (xs.take k) = true := by
  simp only [tvB, Bool.and_eq_true, decide_eq_true_eq, List.all_eq_true] at h ⊢
  exact ⟨by rw [List.length_take]; omega, fun x hx => h.2 x (List.mem_of_mem_take hx)⟩
theorem tv_drop {xs : TS} (h : tvB xs = true) (k : Nat) : tvB (xs.drop k) = true := by
  simp only [tvB, Bool.and_eq_true, decide_eq_true_eq, List.all_eq_true] at h ⊢
  exact ⟨by rw [List.length_drop]; omega, fun x hx => h.2 x (List.mem_of_mem_drop hx)⟩
theorem tv_bad (xs : TS) (x : Tst) (h : tOk x = false) : tvB (xs ++ [x]) = false := by
  simp [tvB, h]
theorem ths_half {xs : TS} (h : tvB xs = true) (f t p r : Int) (k : Nat) : thsB xs f t p r = (thsB (xs.take k) f t p r && thsB (xs.drop k) f t p r) := by
  have e : xs.all (tHolds f t p r) = ((xs.take k).all (tHolds f t p r) && (xs.drop k).all (tHolds f t p r)) := by
    rw [← List.all_append, List.take_append_drop]
  simp only [thsB, h, tv_take h k, tv_drop h k, Bool.true_and]
  rw [e]
  cases pkB f t p r <;> simp
theorem ths_nil (f t p r : Int) : thsB [] f t p r = pkB f t p r := by simp [thsB, tvB]
theorem ths_one {xs : TS} {f t p r : Int} (k : Nat) (hk : k < xs.length) (h : tHolds f t p r xs[k] = false) : thsB xs f t p r = false := by
  have : xs.all (tHolds f t p r) = false := by
    rw [List.all_eq_false]; exact ⟨_, List.getElem_mem hk, by simp [h]⟩
  simp [thsB, this]
theorem tv_one {xs : TS} (k : Nat) (hk : k < xs.length) (h : tOk xs[k] = false) : tvB xs = false := by
  have : xs.all tOk = false := by
    rw [List.all_eq_false]; exact ⟨_, List.getElem_mem hk, by simp [h]⟩
  simp [tvB, this]
theorem all_next {q : Tst → Bool} {xs : TS} {k : Nat} (hk : k < xs.length) (h : (xs.take k).all q = true) (hq : q xs[k] = true) : (xs.take (k + 1)).all q = true := by
  rw [List.take_succ_eq_append_getElem hk, List.all_append, h]; simp [hq]
/-- Where all hold, the list and the packet decide. -/
theorem ths_all {xs : TS} {f t p r : Int} (h : xs.all (tHolds f t p r) = true) : thsB xs f t p r = (tvB xs && pkB f t p r) := by simp [thsB, h]
theorem tv_all {xs : TS} (h : xs.all tOk = true) : tvB xs = decide (xs.length ≤ 6) := by simp [tvB, h]
end Go.Proofs.YtoapnjlpmjcloaaDoor
