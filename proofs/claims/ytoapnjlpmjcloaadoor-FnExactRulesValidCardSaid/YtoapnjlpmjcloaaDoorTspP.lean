/-
  PLAIN: what a test holds for, and the set of its field's values. No program in sight (but the table's words).
-/
import Derived.Test.YtoapnjlpmjcloaaDoorOps
import Derived.Test.YtoapnjlpmjcloaaDoorPfl
import Derived.Test.YtoapnjlpmjcloaaDoorTst
namespace Go.Proofs.YtoapnjlpmjcloaaDoor
open Pf

/-- Does a test hold for a packet? -/
def thB (fl lo hi : Int) (nt : Bool) (f t p r : Int) : Bool := tsB fl lo hi && pkB f t p r && (inR lo (nthF f t p r fl) hi != nt)
/-- The set of the values for which a test holds. -/
def tspV (fl lo hi : Int) (nt : Bool) : PS := if tsB fl lo hi then (if nt then otherF (topF fl) 0 [(lo, hi)] else [(lo, hi)]) else []
theorem topF_bd {fl : Int} (h0 : 0 ≤ fl) (h1 : fl ≤ 3) : 0 ≤ topF fl ∧ topF fl ≤ 65535 := by
  unfold topF
  rcases in_four h0 (by omega : fl < 4) with rfl | rfl | rfl | rfl <;> decide
theorem nthF_bd {f t p r fl : Int} (h : pkB f t p r = true) (h0 : 0 ≤ fl) (h1 : fl ≤ 3) : 0 ≤ nthF f t p r fl ∧ nthF f t p r fl ≤ topF fl := by
  obtain ⟨⟨a0, a1⟩, ⟨b0, b1⟩, ⟨c0, c1⟩, ⟨d0, d1⟩⟩ := pkB_iff.1 h
  rcases in_four h0 (by omega : fl < 4) with rfl | rfl | rfl | rfl
  · rw [topF_0]; simp [nthF]; omega
  · rw [topF_1]; simp [nthF]; omega
  · rw [topF_2]; simp [nthF]; omega
  · rw [topF_3]; simp [nthF]; omega
theorem tsp_one {fl lo hi : Int} (h : tsB fl lo hi = true) : validF (0 - 2) (topF fl) [(lo, hi)] = true := by
  obtain ⟨_, ⟨h0, h1⟩, h2⟩ := tsB_iff.1 h
  exact validF_cons.2 ⟨by simp only; omega, h1, h2, rfl⟩
theorem tsp_length (fl lo hi : Int) (nt : Bool) : (tspV fl lo hi nt).length ≤ 2 := by
  unfold tspV
  split
  · split
    · exact otherF_length _ _ _
    · simp
  · simp
theorem tsp_valid {fl lo hi : Int} (h : tsB fl lo hi = true) (nt : Bool) : valid (tspV fl lo hi nt) (topF fl) = true := by
  obtain ⟨⟨k0, k1⟩, ⟨h0, h1⟩, h2⟩ := tsB_iff.1 h
  have ht := topF_bd k0 k1
  refine valid_iff.2 ⟨ht, by have := tsp_length fl lo hi nt; omega, ?_⟩
  unfold tspV
  rw [if_pos h]
  cases nt with
  | true => exact otherF_valid (tsp_one h)
  | false => exact tsp_one h
theorem tsp_mem {fl lo hi : Int} (h : tsB fl lo hi = true) (nt : Bool) {v : Int} (hv0 : 0 ≤ v) (hv1 : v ≤ topF fl) : memB v (tspV fl lo hi nt) = (inR lo v hi != nt) := by
  unfold tspV
  rw [if_pos h]
  have e : memB v [(lo, hi)] = inR lo v hi := by simp [memB, inB, inR]
  cases nt with
  | true =>
    show memB v (otherF (topF fl) 0 [(lo, hi)]) = _
    rw [otherF_mem v (tsp_one h), e]
    simp [hv0, hv1]
  | false =>
    show memB v [(lo, hi)] = _
    rw [e]; simp
theorem th_mem {fl lo hi f t p r : Int} {nt : Bool} (h : tsB fl lo hi = true) (hp : pkB f t p r = true) : thB fl lo hi nt f t p r = memB (nthF f t p r fl) (tspV fl lo hi nt) := by
  obtain ⟨⟨k0, k1⟩, _, _⟩ := tsB_iff.1 h
  obtain ⟨b0, b1⟩ := nthF_bd hp k0 k1
  rw [tsp_mem h nt b0 b1]
  simp [thB, h, hp]
theorem th_not {fl lo hi f t p r : Int} {nt : Bool} (h : tsB fl lo hi = true) (hp : pkB f t p r = true) : thB fl lo hi (!nt) f t p r = !thB fl lo hi nt f t p r := by
  simp only [thB, h, hp, Bool.true_and]
  cases inR lo (nthF f t p r fl) hi <;> cases nt <;> rfl
end Go.Proofs.YtoapnjlpmjcloaaDoor
