/-
  WALKS: impl.compareEdges (cmp.Compare, cmp.Or), and slices.SortFunc of edges by the shelf.
-/
import Derived.Test.YtmidegoedgmcnaaEdgeP
import Derived.Test.YtmidegoedgmcnaaRows
import Derived.Test.YtmidegoedgmcnaaApp
import Derived.Test.YtmidegoedgmcnaaSortLay
import Derived.Shelf.SlSortCmp.NoneTotal
import Derived.WalkLawsBesides
import Derived.BigQuiet
import Derived.Deep.QuietTactic
import Derived.Deep.RegionHeld3
import Derived.Deep.RegionWith
import Derived.Outline
import Derived.Handy
namespace Go.Proofs
namespace Ytmidegoedgmcnaa
open Go.Shelf Go.ChangeShapes Go.WideShapes Go.ChangeAt Go.RowKit Go.Sort Pf

def encP (x : Int × Int) : List Value := [.int .i64 x.1, .int .i64 x.2]
def cmpI (x y : Int) : Int := if x < y then -1 else if y < x then 1 else 0
def eCmp (x y : Int × Int) : Int := if cmpI x.1 y.1 ≠ 0 then cmpI x.1 y.1 else cmpI y.2 x.2
theorem eCmp_lt (x y : Int × Int) : ltOf eCmp x y = decide (x.1 < y.1 ∨ (x.1 = y.1 ∧ y.2 < x.2)) := by
  unfold ltOf eCmp cmpI
  rw [decide_eq_decide]
  split <;> split at * <;> (try split at *) <;> (try split) <;> (try split) <;> omega
theorem eSwo : SWO (ltOf eCmp) := {
  irrefl := fun x => by rw [eCmp_lt]; simp
  trans := fun x y z h1 h2 => by rw [eCmp_lt] at *; simp only [decide_eq_true_eq] at *; omega
  ntrans := fun x y z h1 h2 => by rw [eCmp_lt] at *; simp only [decide_eq_false_iff_not] at *; omega }
theorem eTotal (x y : Int × Int) (h1 : ltOf eCmp x y = false) (h2 : ltOf eCmp y x = false) : x = y := by
  rw [eCmp_lt] at *
  simp only [decide_eq_false_iff_not] at *
  exact Prod.ext (by omega) (by omega)
theorem eLe_lt (x y : Int × Int) : (!(ltOf eCmp y x)) = eLe x y := by
  rw [eCmp_lt, Bool.eq_iff_iff, eLe_iff]
  simp only [Bool.not_eq_true', decide_eq_false_iff_not]
  omega
theorem eLe_sorted (l : PS) : (l.mergeSort fun x y => !(ltOf eCmp y x)).Pairwise fun a b => eLe a b = true := by
  have e : (fun x y => !(ltOf eCmp y x)) = eLe := by funext x y; exact eLe_lt x y
  rw [e]
  exact List.pairwise_mergeSort (fun a b c h1 h2 => by rw [eLe_iff] at *; omega) (fun a b => by
    rw [Bool.or_eq_true, eLe_iff, eLe_iff]; omega) l

set_option maxHeartbeats 400000 in
theorem isNaN_any (x : Int) (W : World) : Calls Try.prog 82 #[.int .i64 x] W fun e w' => e = .returned (.bool false) ∧ W = w' := by
  have h : (x != x) = false := by simp
  go_enter Try.func82, Try.ntmps82
  go_wp2
  go_ret
  exact ⟨rfl, rfl⟩
set_option maxHeartbeats 400000 in
theorem compare_any (x y : Int) (W : World) : Calls Try.prog 71 #[.int .i64 x, .int .i64 y] W fun e w' => e = .returned (.int .i64 (cmpI x y)) ∧ W = w' := by
  obtain ⟨r, hr⟩ : ∃ r, cmpI x y = r := ⟨_, rfl⟩
  rw [hr]
  by_cases h1 : x < y
  · obtain rfl : r = -1 := by rw [← hr, cmpI, if_pos h1]
    clear hr
    go_enter Try.func71, Try.ntmps71
    go_wp2_with (go_at_call 82; refine (isNaN_any _ _).mono ?_; rintro e w' ⟨rfl, rfl⟩)
    go_ret
    exact ⟨rfl, rfl⟩
  · by_cases h2 : y < x
    · obtain rfl : r = 1 := by rw [← hr, cmpI, if_neg h1, if_pos h2]
      clear hr
      go_enter Try.func71, Try.ntmps71
      go_wp2_with (go_at_call 82; refine (isNaN_any _ _).mono ?_; rintro e w' ⟨rfl, rfl⟩)
      go_ret
      exact ⟨rfl, rfl⟩
    · obtain rfl : r = 0 := by rw [← hr, cmpI, if_neg h1, if_neg h2]
      clear hr
      go_enter Try.func71, Try.ntmps71
      go_wp2_with (go_at_call 82; refine (isNaN_any _ _).mono ?_; rintro e w' ⟨rfl, rfl⟩)
      go_ret
      exact ⟨rfl, rfl⟩

set_option maxHeartbeats 400000 in
theorem cmpOr_any (b : Nat) (x y : Int) (W : World) (h0 : W.cell? ⟨b, 0, none⟩ = some (.int .i64 x)) (h1 : W.cell? ⟨b, 1, none⟩ = some (.int .i64 y)) :
    Calls Try.prog 70 #[.slice (some ⟨b, 0, none⟩) 2 2] W fun e w' => e = .returned (.int .i64 (if x ≠ 0 then x else y)) ∧ W = w' := by
  by_cases hx : x = 0
  · subst hx
    by_cases hy : y = 0
    · subst hy
      go_enter Try.func70, Try.ntmps70
      go_wp2_with fail
      refine wp_loop_rounds 3 ?_
      rw [rounds_succ]
      go_wp2_with fail
      rw [rounds_succ]
      go_wp2_with fail
      rw [rounds_succ]
      go_wp2
      go_ret
      exact ⟨rfl, rfl⟩
    · have hb : (y != 0) = true := by simpa using hy
      clear hy
      go_enter Try.func70, Try.ntmps70
      go_wp2_with fail
      refine wp_loop_rounds 3 ?_
      rw [rounds_succ]
      go_wp2_with fail
      rw [rounds_succ]
      go_wp2
      go_ret
      exact ⟨rfl, rfl⟩
  · have hb : (x != 0) = true := by simpa using hx
    have hi : (if x ≠ 0 then x else y) = x := if_pos hx
    rw [hi]
    clear hi hx
    go_enter Try.func70, Try.ntmps70
    go_wp2_with fail
    refine wp_loop_rounds 3 ?_
    rw [rounds_succ]
    go_wp2
    go_ret
    exact ⟨rfl, rfl⟩

set_option maxHeartbeats 1000000 in
/-- The order of boundaries: it lays blocks and draws, nothing else. -/
theorem compareEdges_any (x y : Int × Int) (W : World) :
    Calls Try.prog 63 #[.agg #[.int .i64 x.1, .int .i64 x.2], .agg #[.int .i64 y.1, .int .i64 y.2]] W fun e w' => e = .returned (.int .i64 (eCmp x y)) ∧ ∃ q os', w' = grow (W.drewN q) os' := by
  obtain ⟨x1, x2⟩ := x
  obtain ⟨y1, y2⟩ := y
  simp only [eCmp]
  have C1 := Lib.hid (fun W => compare_any x1 y1 W)
  have C2 := Lib.hid (fun W => compare_any y2 x2 W)
  generalize cmpI x1 y1 = a at C1 ⊢
  generalize cmpI y2 x2 = c at C2 ⊢
  have CO := fun b W h0 h1 => cmpOr_any b a c W h0 h1
  generalize (if a ≠ 0 then a else c) = r at CO ⊢
  have CO := Lib.hid CO
  go_enter Try.func63, Try.ntmps63
  go_wp2_with fail
  go_region_held3 (fun w' => w'.cell? ⟨W.heap.size, 0, none⟩ = some (.int .i64 x1) ∧ w'.cell? ⟨W.heap.size, 1, none⟩ = some (.int .i64 x2) ∧ w'.cell? ⟨W.heap.size + 1, 0, none⟩ = some (.int .i64 y1) ∧ w'.cell? ⟨W.heap.size + 1, 1, none⟩ = some (.int .i64 y2)) (go_keep)
    (first
      | (go_at_call 71; (first | (with_reducible refine (C1.out _).mono ?_) | (with_reducible refine (C2.out _).mono ?_)); rintro e w' ⟨rfl, rfl⟩)
      | (go_at_call 70; refine (CO.out _ _ (by go_cell) (by go_cell)).mono ?_; rintro e w' ⟨rfl, rfl⟩))
  all_goals go_wp2
  all_goals go_ret
  all_goals exact ⟨rfl, 1, _, by rw [alloc_eq_grow, alloc_eq_grow, alloc_eq_grow, grow_grow, grow_grow, drew_grow]; rfl⟩

theorem encP_one (x : Int × Int) : ∀ v ∈ encP x, v.oneCell' = true := by
  intro v hv; simp [encP] at hv; rcases hv with rfl | rfl <;> rfl
theorem edgeLays (blk off size : Nat) (w : World) : CmpLays Try.prog 63 #[] encP 2 eCmp blk off size w :=
  fun _ _ _ _ x y => compareEdges_any x y _

/-- An own row of pairs, as the shelf says it. -/
theorem holds_own {w : World} {lo t g n c : Nat} {S : PS} (own : w.ownsRow lo t 2 (.slice (some ⟨g, 0, none⟩) n c) n (flat S)) : HoldsK encP 2 w g 0 S.toArray := by
  have hl : S.length = n := (own_rd own).len
  intro j hj
  rw [size_flatK] at hj
  have hj' : j < S.length * 2 := by simpa using hj
  have hlt : j / 2 < S.length := by omega
  have hc := own.cellAt j (by omega)
  have hf := own.frozenAt j
  rw [Nat.zero_add]
  refine ⟨?_, hf⟩
  rw [hc, get_flatK _ _ _ _ (by simpa using hj'), getElem!_pos S.toArray (j / 2) (by simpa using hlt)]
  have h1 := flat_fst S (j / 2) S[j / 2] (List.getElem?_eq_getElem hlt)
  have h2 := flat_snd S (j / 2) S[j / 2] (List.getElem?_eq_getElem hlt)
  rcases Nat.mod_two_eq_zero_or_one j with e | e
  · rw [show j / 2 * 2 = j from by omega] at h1
    rw [h1, e]; rfl
  · rw [show j / 2 * 2 + 1 = j from by omega] at h2
    rw [h2, e]; rfl
/-- The row behind the sort. -/
theorem rd_sorted {w : World} {g m n c : Nat} {S S' : PS} {os : Array Obj} (hH : HoldsK encP 2 w g 0 S.toArray) (hb : g < w.heap.size) (hl : S'.length = S.length) (hn : S.length = n) (hc : n ≤ c) (hm : c ≤ maxLen) :
    Rd (sortWorldK encP 2 w g 0 m S'.toArray os) (some ⟨g, 0, none⟩) n c S' := by
  have h := holdsK_sortWorldK_c encP 2 w g 0 S.toArray S'.toArray m os hH hb (by simp [hl])
  refine ⟨by omega, hc, hm, fun _ => ⟨g, 0, rfl, Nat.lt_of_lt_of_le hb (size_sortWorldK_c encP 2 w g 0 m S'.toArray os), fun k x hx => ?_⟩⟩
  obtain ⟨hk, rfl⟩ := List.getElem?_eq_some_iff.1 hx
  have h0 := (h.cell (i := k) (c := 0) (by simpa using hk) (by omega)).1
  have h1 := (h.cell (i := k) (c := 1) (by simpa using hk) (by omega)).1
  rw [getElem!_pos S'.toArray k (by simpa using hk)] at h0 h1
  exact ⟨h0, h1⟩
theorem grown_sorted {w : World} {g m : Nat} {S' : PS} {os : Array Obj} : w.grownBy (sortWorldK encP 2 w g 0 m S'.toArray os) (some g) := by
  refine ⟨rfl, rfl, rfl, size_sortWorldK_c encP 2 w g 0 m S'.toArray os, fun i hi hne => ?_⟩
  have hne' : i ≠ g := by simpa using hne
  unfold sortWorldK grow putRowK putRow mapBlock Sort.ahead
  simp only
  rw [Array.getElem?_append_left (by simpa using hi), Array.getElem?_modify, if_neg (Ne.symm hne')]
end Ytmidegoedgmcnaa
end Go.Proofs
