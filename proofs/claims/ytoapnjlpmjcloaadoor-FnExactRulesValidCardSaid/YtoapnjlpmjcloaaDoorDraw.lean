/-
  WALKS: spec.l20Open, (*l20Rd).pick, (*l20Rd).odd: a reader of bytes: 'Rdr w g f': block g holds it, f picks more are sure to go well; pick(n) answers a number below n (0 if n is below 1).
-/
import Derived.Test.YtoapnjlpmjcloaaDoorRows
import Derived.Test.YtoapnjlpmjcloaaDoorOpen
import Derived.Test.YtoapnjlpmjcloaaDoorApp
import Derived.WalkLawsBesides
import Derived.BigQuiet
import Derived.Deep.QuietTactic
import Derived.Lib.QuietBelow
import Derived.Outline
import Derived.Handy
namespace Go.Proofs.YtoapnjlpmjcloaaDoor
open Go.ChangeShapes Go.WideShapes Go.ChangeAt Go.RowKit Go.Sort Pf

/-- Block g holds a reader of bytes, which can be asked f times more. -/
structure Rdr (w : World) (g f : Nat) : Prop where
  out : ∃ (A : Option Addr) (n c : Nat) (zs : List Int) (p : Nat), w.cell? ⟨g, 0, none⟩ = some (.slice A n c) ∧ w.cell? ⟨g, 1, none⟩ = some (.int .i64 p) ∧ w.frozen? ⟨g, 1, none⟩ = false ∧ Rb w A n c zs ∧
  (0 < n → ∀ b o q, A = some ⟨b, o, q⟩ → b < g) ∧ p + f ≤ 1000000

section
variable {w w' : World} {g f : Nat}
theorem Rdr.lt (h : Rdr w g f) : g < w.heap.size := by
  obtain ⟨A, n, c, zs, p, h0, _⟩ := h.out
  exact block_lt_of_cell h0
theorem Rdr.less {k : Nat} (h : Rdr w g f) (hk : k ≤ f) : Rdr w g k := by
  obtain ⟨A, n, c, zs, p, h0, h1, h2, h3, h4, h5⟩ := h.out
  exact ⟨⟨A, n, c, zs, p, h0, h1, h2, h3, h4, by omega⟩⟩
theorem Rb.grown {A : Option Addr} {n c r : Nat} {zs : List Int} (h : Rb w A n c zs) (hg : w.grownBy w' (some r)) (hne : 0 < n → ∀ b o q, A = some ⟨b, o, q⟩ → b ≠ r) : Rb w' A n c zs := by
  obtain ⟨h1, h2, h3, h5, h4⟩ := h
  refine ⟨h1, h2, h3, h5, fun hn => ?_⟩
  obtain ⟨b, o, e, hb, hc⟩ := h4 hn
  have hblk : w'.heap[b]? = w.heap[b]? := hg.block b hb (by have := hne hn b o none e; simpa using this)
  exact ⟨b, o, e, Nat.lt_of_lt_of_le hb hg.size, fun k z hz => (World.cell?_of_block (w := w) (a := ⟨b, o + k, none⟩) hblk).trans (hc k z hz)⟩
/-- The reader stays as it is while memory grows. -/
theorem Rdr.below (h : Rdr w g f) (hb : Below w.heap.size w w') : Rdr w' g f := by
  obtain ⟨A, n, c, zs, p, h0, h1, h2, h3, h4, h5⟩ := h.out
  exact ⟨⟨A, n, c, zs, p, keepCell hb h0, keepCell hb h1, keepFree hb h1 h2, h3.below hb, h4, h5⟩⟩
theorem Rdr.alloc (h : Rdr w g f) (o : Obj) : Rdr (w.alloc o) g f := h.below (below_one w o)
theorem Rdr.drew (h : Rdr w g f) : Rdr w.drew g f := ⟨h.out⟩
theorem Rdr.drewN (h : Rdr w g f) (k : Nat) : Rdr (w.drewN k) g f := ⟨h.out⟩
/-- Another block turns. -/
theorem Rdr.other {r : Nat} (h : Rdr w g f) (hg : w.grownBy w' (some r)) (hr : g < r) : Rdr w' g f := by
  obtain ⟨A, n, c, zs, p, h0, h1, h2, h3, h4, h5⟩ := h.out
  have hne : (some r : Option Nat) ≠ some g := by simp; omega
  exact ⟨⟨A, n, c, zs, p, grown_cell hg h0 hne, grown_cell hg h1 hne, grown_free hg h1 h2 hne, h3.grown hg (fun hn b o q e => by have := h4 hn b o q e; omega), h4, h5⟩⟩
theorem Rdr.grown {row : Option Nat} (h : Rdr w g f) (hg : w.grownBy w' row) (hr : ∀ r, row = some r → g < r) : Rdr w' g f := by
  cases row with
  | none => exact h.below ⟨hg.os, hg.tape, hg.output, hg.size, fun k hk => hg.block k hk (by simp)⟩
  | some r => exact h.other hg (hr r rfl)
theorem grownBy_setCell (w : World) (a : Addr) (x : Value) : w.grownBy (w.setCell a x) (some a.block) := by
  have hb := (Below.refl 0 w).setCell (p := a) (Nat.zero_le _) x
  refine ⟨hb.os, hb.tape, hb.output, hb.size, fun k hk hne => ?_⟩
  have hka : k ≠ a.block := by simpa using hne
  exact Go.RowKit.Below.heap_setCell w a x k hka
theorem Rdr.set {a : Addr} {x : Value} (h : Rdr w g f) (hg : g < a.block) : Rdr (w.setCell a x) g f := h.other (grownBy_setCell w a x) hg
end

/-- What a pick leaves. -/
def Picked (g : Nat) (n : Int) (f : Nat) (w : World) (e : Ending) (w' : World) : Prop := ∃ v : Int, e = .returned (.int .i64 v) ∧ 0 ≤ v ∧ (v < n ∨ v = 0) ∧ w.grownBy w' (some g) ∧ Rdr w' g f

theorem xor_nonneg {a b : Int} (ha : 0 ≤ a) (ha1 : a ≤ 4611686018427387903) (hb : 0 ≤ b) (hb1 : b ≤ 4611686018427387903) : 0 ≤ bits .xor .i64 a b := by
  obtain ⟨x, rfl⟩ := Int.eq_ofNat_of_zero_le ha
  obtain ⟨y, rfl⟩ := Int.eq_ofNat_of_zero_le hb
  have hx : x < 2 ^ 62 := by omega
  have hy : y < 2 ^ 62 := by omega
  have e : ∀ z : Nat, z < 2 ^ 62 → (BitVec.ofInt 64 (z : Int)).toNat = z := fun z hz => by
    rw [BitVec.ofInt_natCast, BitVec.toNat_ofNat]
    exact Nat.mod_eq_of_lt (by omega)
  show 0 ≤ IntKind.i64.wrap ((BitVec.ofInt 64 (x : Int) ^^^ BitVec.ofInt 64 (y : Int)).toNat : Int)
  rw [BitVec.toNat_xor, e x hx, e y hy, IntKind.wrap_i64]
  have := Nat.xor_lt_two_pow hx hy
  omega

set_option maxHeartbeats 1000000 in
theorem pick_one (g f : Nat) (n : Int) (w : World) (h : Rdr w g (f + 1)) :
    Calls Tryd.prog 61 #[.pointer (some ⟨g, 0, none⟩), .int .i64 n] w (Picked g n f w) := by
  obtain ⟨A, m, c, zs, p, h0, h1, h2, h3, h4, h5⟩ := h.out
  have hm : m ≤ maxLen := Nat.le_trans h3.2.1 h3.2.2.1
  unfold maxLen at hm
  have hpb : (p : Int) ≤ 1000000 := by omega
  have END : Rdr (w.setCell ⟨g, 1, none⟩ (.int .i64 (p + 1))) g f ∧ w.grownBy (w.setCell ⟨g, 1, none⟩ (.int .i64 (p + 1))) (some g) := by
    have hg := grownBy_setCell w ⟨g, 1, none⟩ (.int .i64 (p + 1))
    refine ⟨⟨⟨A, m, c, zs, p + 1, by go_cell, ?_, by go_simp, h3.grown hg (fun hn b o q e => by have := h4 hn b o q e; simp only; omega), h4, by omega⟩⟩, hg⟩
    rw [show ((p + 1 : Nat) : Int) = (p : Int) + 1 from by omega]
    go_cell
  have END := Lib.hid END
  have HM := Lib.hid hm
  have HRb := Lib.hid (h3.grown END.out.2 (fun hn b o q e => by have := h4 hn b o q e; omega))
  have hz : 0 < m → ∃ b o, A = some ⟨b, o, none⟩ ∧ ∀ (k : Nat) (z : Int), zs[k]? = some z → (w.setCell ⟨g, 1, none⟩ (.int .i64 (p + 1))).cell? ⟨b, o + k, none⟩ = some (.int .u8 z) := fun hm => by
    obtain ⟨b, o, e, _, hc⟩ := HRb.out.2.2.2.2 hm
    exact ⟨b, o, e, hc⟩
  have HZ := Lib.hid hz
  have hlen := h3.1
  have hall := h3.2.2.2.1
  have HL := Lib.hid hlen
  have HA := Lib.hid hall
  clear h3 h4 h5 hz hm hlen hall HRb
  by_cases hn : n < 1
  · go_enter Tryd.func61, Tryd.ntmps61
    go_wp2
    go_ret
    exact ⟨0, rfl, Int.le_refl _, .inr rfl, END.out.2, END.out.1⟩
  · rcases Nat.eq_zero_or_pos m with hm | hm
    · subst hm
      go_enter Tryd.func61, Tryd.ntmps61
      go_wp2
      go_ret
      exact ⟨0, rfl, Int.le_refl _, .inr rfl, END.out.2, END.out.1⟩
    · obtain ⟨b, o, rfl, hc⟩ := HZ.out hm
      by_cases hk : p < m
      · have hpl : p < zs.length := by have := HL.out; omega
        have hc1 := hc p _ (List.getElem?_eq_getElem hpl)
        have hz1 := HA.out _ (List.getElem_mem hpl)
        generalize zs[p] = z at hc1 hz1
        obtain ⟨z0, z1⟩ := hz1
        have hpm : (p : Int) < m := by omega
        have hn1 : 1 ≤ n := by omega
        clear hc hpl
        go_enter Tryd.func61, Tryd.ntmps61
        go_wp2
        go_ret
        exact ⟨z % n, rfl, Int.emod_nonneg _ (by omega), .inl (Int.emod_lt_of_pos _ (by omega)), END.out.2, END.out.1⟩
      · have hmp : (m : Int) ≤ p := by omega
        have hn1 : 1 ≤ n := by omega
        have hl := HL.out
        have l1 : p % m < zs.length := by rw [hl]; exact Nat.mod_lt _ hm
        have l2 : (p * 7 + 3) % m < zs.length := by rw [hl]; exact Nat.mod_lt _ hm
        have c1 := hc _ _ (List.getElem?_eq_getElem l1)
        have c2 := hc _ _ (List.getElem?_eq_getElem l2)
        have a1 := HA.out _ (List.getElem_mem l1)
        have a2 := HA.out _ (List.getElem_mem l2)
        generalize zs[p % m] = y at c1 a1
        generalize zs[(p * 7 + 3) % m] = z at c2 a2
        obtain ⟨y0, y1⟩ := a1
        obtain ⟨z0, z1⟩ := a2
        have t1 : (p : Int).tmod m = ((p % m : Nat) : Int) := by rw [Int.tmod_eq_emod_of_nonneg (by omega)]; omega
        have t2 : ((p : Int) * 7 + 3).tmod m = (((p * 7 + 3) % m : Nat) : Int) := by rw [Int.tmod_eq_emod_of_nonneg (by omega), Int.natCast_emod]; rfl
        have t3 : (p : Int).tdiv m = ((p / m : Nat) : Int) := by rw [Int.tdiv_eq_ediv_of_nonneg (by omega)]; omega
        have hd : p / m ≤ p := Nat.div_le_self _ _
        have b1 : p % m < m := Nat.mod_lt _ hm
        have b2 : (p * 7 + 3) % m < m := Nat.mod_lt _ hm
        generalize p % m = i1 at *
        generalize (p * 7 + 3) % m = i2 at *
        generalize p / m = d at *
        have w1 : IntKind.i64.wrap ((p : Int) * 7) = (p : Int) * 7 := IntWalk.i64_in _ (by omega)
        have w2 : IntKind.i64.wrap ((p : Int) * 7 + 3) = (p : Int) * 7 + 3 := IntWalk.i64_in _ (by omega)
        have w3 : IntKind.i64.wrap (y * 131) = y * 131 := IntWalk.i64_in _ (by omega)
        have w4 : IntKind.i64.wrap (z * 1117) = z * 1117 := IntWalk.i64_in _ (by omega)
        have w5 : IntKind.i64.wrap (y * 131 + z * 1117) = y * 131 + z * 1117 := IntWalk.i64_in _ (by omega)
        have w6 : IntKind.i64.wrap ((p : Int) * 29) = (p : Int) * 29 := IntWalk.i64_in _ (by omega)
        have w7 : IntKind.i64.wrap (y * 131 + z * 1117 + (p : Int) * 29) = y * 131 + z * 1117 + (p : Int) * 29 := IntWalk.i64_in _ (by omega)
        have w8 : IntKind.i64.wrap ((d : Int) * 53) = (d : Int) * 53 := IntWalk.i64_in _ (by omega)
        have w9 : IntKind.i64.wrap (y * 131 + z * 1117 + (p : Int) * 29 + (d : Int) * 53) = y * 131 + z * 1117 + (p : Int) * 29 + (d : Int) * 53 := IntWalk.i64_in _ (by omega)
        have hx0 : 0 ≤ y * 131 + z * 1117 + (p : Int) * 29 + (d : Int) * 53 := by omega
        have hx1 : y * 131 + z * 1117 + (p : Int) * 29 + (d : Int) * 53 ≤ 1000000000 := by omega
        have hi1 : (i1 : Int) < m := by omega
        have hi2 : (i2 : Int) < m := by omega
        have hi1' : (0 : Int) ≤ i1 := by omega
        have hi2' : (0 : Int) ≤ i2 := by omega
        have hmz : ((m : Int) == 0) = false := by simp; omega
        have hm0 : (0 : Int) < m := by omega
        clear hc hk l1 l2 hl b1 b2
        go_enter Tryd.func61, Tryd.ntmps61
        go_wp2_with fail
        go_quiet (fail)
        clear t1 t2 t3 w1 w2 w3 w4 w5 w6 w7 w8 w9
        generalize y * 131 + z * 1117 + (p : Int) * 29 + (d : Int) * 53 = x at hx0 hx1 ⊢
        have hx := xor_nonneg hx0 (by omega) (show 0 ≤ x / 64 by omega) (by omega)
        go_wp2
        go_ret
        exact ⟨_, rfl, by first | exact Int.emod_nonneg _ (by omega) | (rw [Int.tmod_eq_emod_of_nonneg hx]; exact Int.emod_nonneg _ (by omega)), .inl (by first | exact Int.emod_lt_of_pos _ (by omega) | (rw [Int.tmod_eq_emod_of_nonneg hx]; exact Int.emod_lt_of_pos _ (by omega))), grownBy_trans END.out.2 ⟨rfl, rfl, rfl, Nat.le_refl _, fun _ _ _ => rfl⟩, END.out.1.drewN _⟩

theorem pick_any (g F f : Nat) (n : Int) (w : World) (h : Rdr w g F) (hF : F = f + 1) :
    Calls Tryd.prog 61 #[.pointer (some ⟨g, 0, none⟩), .int .i64 n] w (Picked g n f w) := by
  subst hF; exact pick_one g f n w h

theorem picked_lt {g f : Nat} {n : Int} {w w' : World} {e : Ending} (hn : 1 ≤ n) (h : Picked g n f w e w') : ∃ v : Int, e = .returned (.int .i64 v) ∧ 0 ≤ v ∧ v < n ∧ w.grownBy w' (some g) ∧ Rdr w' g f := by
  obtain ⟨v, h1, h2, h3, h4, h5⟩ := h
  exact ⟨v, h1, h2, by omega, h4, h5⟩

def Odded (g f : Nat) (w : World) (e : Ending) (w' : World) : Prop := ∃ v : Bool, e = .returned (.bool v) ∧ w.grownBy w' (some g) ∧ Rdr w' g f

set_option maxHeartbeats 1000000 in
theorem odd_any (g f : Nat) (n : Int) (w : World) (hn0 : 0 ≤ n) (hn1 : n ≤ 1000) (h : Rdr w g (f + 1)) :
    Calls Tryd.prog 78 #[.pointer (some ⟨g, 0, none⟩), .int .i64 n] w (Odded g f w) := by
  by_cases hn : 0 < n
  · go_enter Tryd.func78, Tryd.ntmps78
    go_wp2_with fail
    refine (pick_one g f n w h).mono ?_
    intro e w1 hp
    obtain ⟨v, rfl, -, -, hg, hr⟩ := hp
    go_wp2
    go_ret
    exact ⟨_, rfl, hg, hr⟩
  · have hn2 : n ≤ 0 := by omega
    clear hn
    go_enter Tryd.func78, Tryd.ntmps78
    go_wp2
    go_ret
    exact ⟨_, rfl, World.grownBy.refl _ _, h.less (Nat.le_succ f)⟩

/-- A new reader of a code. -/
def Opened (w : World) (e : Ending) (w' : World) : Prop := ∃ g : Nat, e = .returned (.pointer (some ⟨g, 0, none⟩)) ∧ w.heap.size ≤ g ∧ Rdr w' g 1000000 ∧ Below w.heap.size w w'

theorem Rb.take {w : World} {A : Option Addr} {n c : Nat} {zs : List Int} (h : Rb w A n c zs) {k : Nat} (hk : k ≤ n) : Rb w A k c (zs.take k) := by
  obtain ⟨h1, h2, h3, h5, h4⟩ := h
  refine ⟨by rw [List.length_take]; omega, by omega, h3, fun z hz => h5 z (List.mem_of_mem_take hz), fun hn => ?_⟩
  obtain ⟨b, o, e, hb, hc⟩ := h4 (by omega)
  refine ⟨b, o, e, hb, fun j z hz => hc j z ?_⟩
  rw [List.getElem?_take] at hz
  split at hz
  · exact hz
  · cases hz

set_option maxHeartbeats 1000000 in
theorem open_any (A : Option Addr) (n c : Nat) (zs : List Int) (w : World) (h : Rb w A n c zs) :
    Calls Tryd.prog 59 #[.slice A n c] w (Opened w) := by
  have hmax : n ≤ maxLen := Nat.le_trans h.2.1 h.2.2.1
  have hnc := h.2.1
  unfold maxLen at hmax
  have key : ∀ (k : Nat), k ≤ n → Opened w (.returned (.pointer (some ⟨w.heap.size, 0, none⟩))) (w.alloc (.cells #[.slice A k c, .int .i64 0] 103)) := by
    intro k hk
    have hR := h.take hk
    refine ⟨w.heap.size, rfl, Nat.le_refl _, ⟨⟨A, k, c, zs.take k, 0, by go_cell, by go_cell, by go_simp, hR.alloc _, fun hk0 b o q e => ?_, by omega⟩⟩, below_one _ _⟩
    obtain ⟨b', o', e', hb', _⟩ := hR.2.2.2.2 hk0
    rw [e] at e'
    injection e' with e'
    injection e' with e1
    omega
  have KEY := Lib.hid key
  clear key h
  by_cases hn : 2000 < n
  · have hnc' : (2000 : Int) ≤ c := by omega
    have hn' : (2000 : Int) < n := by omega
    clear hn
    go_enter Tryd.func59, Tryd.ntmps59
    go_wp2
    go_ret
    exact KEY.out 2000 (by omega)
  · have hn' : (n : Int) ≤ 2000 := by omega
    clear hn
    go_enter Tryd.func59, Tryd.ntmps59
    go_wp2
    go_ret
    exact KEY.out n (Nat.le_refl _)
end Go.Proofs.YtoapnjlpmjcloaaDoor
