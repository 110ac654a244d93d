/-
  WALK: spec.DrawSpansValid.
-/
import Derived.Test.YtbonkolgbcmaoaaDrPair
namespace Go.Proofs.Ytbonkolgbcmaoaa
open Go.ChangeShapes Go.WideShapes Go.ChangeAt Go.RowKit Go.Sort Pf

theorem grown_far {W w4 : World} {g b : Nat} (hg : W.grownBy w4 (some g)) (hb : b < W.heap.size) (hne : b ≠ g) : ∀ o, w4.cell? ⟨b, o, none⟩ = W.cell? ⟨b, o, none⟩ :=
  fun o => World.cell?_of_block (w := W) (a := ⟨b, o, none⟩) (hg.block b hb (by simpa using hne))

def selB : Nat → Nat
  | 6 => 3
  | 7 => 4
  | _ => 0
def selA (top : Int) : Nat → Int
  | 3 => -1
  | 4 => 65536
  | _ => top
theorem selB_lt (k : Nat) : selB k < 5 := by unfold selB; split <;> omega
theorem selA_in (top : Int) (k : Nat) : selA top k = top ∨ selA top k = -1 ∨ selA top k = 65536 := by unfold selA; split <;> simp
theorem selB_get' (k : Nat) (hk : k < 8) : ([Value.int .i64 0, .int .i64 0, .int .i64 0, .int .i64 0, .int .i64 0, .int .i64 0, .int .i64 3, .int .i64 4] : List Value)[k]? = some (.int .i64 (selB k : Nat)) := by
  match k, hk with
  | 0, _ => rfl
  | 1, _ => rfl
  | 2, _ => rfl
  | 3, _ => rfl
  | 4, _ => rfl
  | 5, _ => rfl
  | 6, _ => rfl
  | 7, _ => rfl
theorem selB_get (k : Nat) (hk : k < 8) : ([Value.int .i64 0, .int .i64 0, .int .i64 0, .int .i64 0, .int .i64 0, .int .i64 0, .int .i64 3, .int .i64 4] : List Value)[k]'(by simpa using hk) = .int .i64 (selB k : Nat) :=
  Option.some.inj ((List.getElem?_eq_getElem _).symm.trans (selB_get' k hk))
theorem selA_get' (top : Int) (k : Nat) (hk : k < 5) : ([Value.int .i64 top, .int .i64 top, .int .i64 top, .int .i64 (-1), .int .i64 65536] : List Value)[k]? = some (.int .i64 (selA top k)) := by
  match k, hk with
  | 0, _ => rfl
  | 1, _ => rfl
  | 2, _ => rfl
  | 3, _ => rfl
  | 4, _ => rfl
theorem selA_get (top : Int) (k : Nat) (hk : k < 5) : ([Value.int .i64 top, .int .i64 top, .int .i64 top, .int .i64 (-1), .int .i64 65536] : List Value)[k]'(by simpa using hk) = .int .i64 (selA top k) :=
  Option.some.inj ((List.getElem?_eq_getElem _).symm.trans (selA_get' top k hk))

theorem undrew {W w' : World} {r : Option Nat} (h : W.drew.grownBy w' r) : W.grownBy w' r := grownBy_trans (grownBy_drewN W 1 r) h
theorem tA1 {W0 w4 : World} {g j : Nat} {top : Int} {t : TypeId} (hg : (W0.alloc (.cells #[.int .i64 top, .int .i64 top, .int .i64 top, .int .i64 (-1), .int .i64 65536] t)).grownBy w4 (some g)) (hl : g < W0.heap.size) (hj : j < 5) :
    w4.cell? ⟨W0.heap.size, j, none⟩ = some (.int .i64 (selA top j)) :=
  grown_cell hg (by simpa using selA_get' top j hj) (by simp; omega)
theorem tA2 {W0 w4 : World} {g j : Nat} {top : Int} {t : TypeId} {o : Obj} (hg : ((W0.alloc (.cells #[.int .i64 top, .int .i64 top, .int .i64 top, .int .i64 (-1), .int .i64 65536] t)).alloc o).grownBy w4 (some g)) (hl : g < W0.heap.size) (hj : j < 5) :
    w4.cell? ⟨W0.heap.size, j, none⟩ = some (.int .i64 (selA top j)) :=
  grown_cell hg (keepCell (below_one _ o) (by simpa using selA_get' top j hj)) (by simp; omega)
theorem tB1 {W0 w4 : World} {g k : Nat} {t : TypeId} (hg : (W0.alloc (.cells #[.int .i64 0, .int .i64 0, .int .i64 0, .int .i64 0, .int .i64 0, .int .i64 0, .int .i64 3, .int .i64 4] t)).grownBy w4 (some g)) (hl : g < W0.heap.size) (hk : k < 8) :
    w4.cell? ⟨W0.heap.size, k, none⟩ = some (.int .i64 (selB k : Nat)) :=
  grown_cell hg (by simpa using selB_get' k hk) (by simp; omega)
theorem tB2 {W0 w4 : World} {g k : Nat} {t : TypeId} {o : Obj} (hg : ((W0.alloc (.cells #[.int .i64 0, .int .i64 0, .int .i64 0, .int .i64 0, .int .i64 0, .int .i64 0, .int .i64 3, .int .i64 4] t)).alloc o).grownBy w4 (some g)) (hl : g < W0.heap.size) (hk : k < 8) :
    w4.cell? ⟨W0.heap.size, k, none⟩ = some (.int .i64 (selB k : Nat)) :=
  grown_cell hg (keepCell (below_one _ o) (by simpa using selB_get' k hk)) (by simp; omega)

def DrawnV (w : World) (e : Ending) (w' : World) : Prop := ∃ (A : Option Addr) (c : Nat) (xs : PS) (v : Int), e = .returned (.tuple #[.slice A xs.length c, .int .i64 v]) ∧ (Rd w' A xs.length c xs ∧ (A = none → c = 0)) ∧ (∃ top, TopIn top ∧ ShortOr top xs ∧ (v = top ∨ v = -1 ∨ v = 65536)) ∧ Below w.heap.size w w'

theorem drawn_end {w w2 w3 wf : World} {g : Nat} {A : Option Addr} {c : Nat} {xs : PS} {v top : Int} (G : w3.grownBy wf (some g)) (hg : w.heap.size ≤ g) (hs3 : w.heap.size ≤ w3.heap.size) (hgw2 : g < w2.heap.size)
    (H : Below w.heap.size w w3) (own : w3.ownsRow w2.heap.size 30 2 (.slice A xs.length c) xs.length (flat xs)) (ht : TopIn top) (hx : ShortOr top xs) (hv : v = top ∨ v = -1 ∨ v = 65536) :
    DrawnV w (.returned (.tuple #[.slice A xs.length c, .int .i64 v])) wf :=
  have O := own_grown own G (.inl hgw2)
  ⟨A, c, xs, v, rfl, ⟨own_rd O, own_none O⟩, ⟨top, ht, hx, hv⟩, below_reader H G hs3 hg⟩

set_option maxHeartbeats 4000000 in
theorem drawSpansValid_any (A : Option Addr) (n c : Nat) (zs : List Int) (w : World) (h : Rb w A n c zs) :
    Calls Try.prog 19 #[.slice A n c] w (DrawnV w) := by
  have CO := Lib.hid (open_any A n c zs w h)
  clear h
  go_enter Try.func19, Try.ntmps19
  go_wp2_with fail
  refine (CO.out).mono ?_
  rintro e w1 ⟨g, rfl, hg, hr, hb⟩
  have HB := Lib.hid hb
  have HR := Lib.hid (hr.less (show 62 ≤ 1000000 by omega))
  have hs := hb.size
  clear hb hr CO
  go_wp2_with fail
  refine (drTop_any g 61 _ HR.out).mono ?_
  rintro e w2 ⟨top, rfl, ht, hg2, hr2⟩
  obtain ⟨ht0, ht1⟩ := ht.bd
  have HT := Lib.hid ht
  have H2 := Lib.hid (below_reader HB.out hg2 hs hg)
  have HR2 := Lib.hid hr2
  have hs2 := hg2.size
  clear hg2 hr2 HB HR ht
  go_wp2_with fail
  refine (drSet_any g 1 top 2 _ ht0 ht1 (by omega) (by omega) HR2.out).mono ?_
  rintro e w3 ⟨A, c, xs, rfl, own3, hx, hg3, hr3⟩
  have H3 := Lib.hid (below_reader H2.out hg3 (by omega) hg)
  have HO := Lib.hid own3
  have HX := Lib.hid hx
  have hgw := hr3.lt
  have hs3 := H3.out.size
  have hgw2 := HR2.out.lt
  have R0 := hr3
  have hgw3 : g < w3.heap.size := hgw
  clear own3 hx hg3 hr3 H2 HR2
  go_wp2_with fail
  go_region_with (go_at_call 51; ((with_reducible refine (pick_any g _ 0 8 _ (by first | with_reducible assumption | exact Rdr.alloc (by assumption) _ | exact Rdr.alloc (Rdr.alloc (by assumption) _) _ | exact (Rdr.drew (by assumption)) | exact Rdr.alloc (Rdr.drew (by assumption)) _ | exact Rdr.drew (Rdr.alloc (by assumption) _) | exact Rdr.drew (Rdr.alloc (Rdr.alloc (by assumption) _) _)) rfl).mono ?_); intro e w4 hp; obtain ⟨v, rfl, hv0, hv1, hg4, hr4⟩ := picked_lt (by omega) hp; clear hp; have G4 := Lib.hid (show w3.grownBy w4 (some g) by first | exact hg4 | exact grownBy_trans (below_grown (below_one _ _)) hg4 | exact grownBy_trans (below_grown (below_two _ _ _)) hg4 | exact grownBy_trans (grownBy_drewN _ 1 _) hg4 | exact grownBy_trans (below_grown (below_one _ _)) (grownBy_trans (grownBy_drewN _ 1 _) hg4) | exact grownBy_trans (below_grown (below_two _ _ _)) (grownBy_trans (grownBy_drewN _ 1 _) hg4)); have hs4 := G4.out.size; obtain ⟨k, rfl⟩ := Int.eq_ofNat_of_zero_le hv0; have hk8 : k < 8 := (by omega); clear hv0; have hj5 := selB_lt k; have hgA := Nat.lt_trans hgw3 (Nat.lt_succ_self _); (first | (have hg5 := undrew hg4) | (have hg5 := hg4)); (first | (have eA := tA2 hg5 hgw3 hj5; have eB := tB1 hg5 (by simpa using hgA) hk8; simp only [World.size_alloc] at eB) | (have eB := tB2 hg5 hgw3 hk8; have eA := tA1 hg5 (by simpa using hgA) hj5; simp only [World.size_alloc] at eA) | (have eA := tA1 hg5 hgw3 hj5; have hl4 := World.block_lt_of_cell? _ _ eA; simp only at hl4; have hn4 := World.new_ne w4 _ eA) | (have eB := tB1 hg5 hgw3 hk8; have hl4 := World.block_lt_of_cell? _ _ eB; simp only at hl4; have hn4 := World.new_ne w4 _ eB) | skip); clear hg4 hg5 hr4; have hB1 := selB_get k hk8; have hB2 := selB_get' k hk8; have hA1 := selA_get top _ hj5; have hA2 := selA_get' top _ hj5; have hR := Lib.hid (selA_in top (selB k)); generalize selB k = j at *; generalize selA top j = r at *; have hj6 : (j : Int) < 5 := (by omega); have hj7 : (0 : Int) ≤ j := (by omega); have hk9 : (0 : Int) ≤ k := (by omega)))
  all_goals
    go_wp2
    go_ret2
    refine drawn_end ?_ hg hs3 hgw2 H3.out HO.out HT.out HX.out hR.out
    first
      | exact G4.out
      | exact grown_below G4.out (below_one _ _)
      | exact grown_below G4.out (below_two _ _ _)
      | exact grownBy_trans G4.out (grownBy_drewN _ 1 _)
      | exact grownBy_trans (grown_below G4.out (below_one _ _)) (grownBy_drewN _ 1 _)
      | exact grownBy_trans (grown_below G4.out (below_two _ _ _)) (grownBy_drewN _ 1 _)
end Go.Proofs.Ytbonkolgbcmaoaa
