/-
  WALKS: laws.toTestS.
-/
import Derived.Test.YtoapnjlpmjcloaaDoorRows
import Derived.Test.YtoapnjlpmjcloaaDoorMemT
import Derived.Test.YtoapnjlpmjcloaaDoorTst
import Derived.WalkLawsBesides
import Derived.BigQuiet
import Derived.Deep.QuietTactic
import Derived.Lib.QuietBelow
import Derived.Outline
import Derived.Handy
namespace Go.Proofs.YtoapnjlpmjcloaaDoor
open Go.ChangeShapes Go.WideShapes Go.ChangeAt Go.RowKit Go.Sort Pf

theorem infoTest : (Tryd.prog.info? 32).map (fun i => (i.zero, i.size, i.bytes)) = some (some (.agg #[.int .i64 0, .int .i64 0, .int .i64 0, .bool false]), 4, 32) := by kernel_rfl

/-- The cells of a row of which the first k tests are laid. -/
def laidT (us : List Value) (xs : TS) (k : Nat) : Prop := ∀ i x, i < k → xs[i]? = some x → us[i * 4]? = some (.int .i64 x.fl) ∧ us[i * 4 + 1]? = some (.int .i64 x.lo) ∧ us[i * 4 + 2]? = some (.int .i64 x.hi) ∧ us[i * 4 + 3]? = some (.bool x.nt)
theorem laidT_step {us : List Value} {xs : TS} {k : Nat} {x : Tst} (h : laidT us xs k) (hx : xs[k]? = some x) (hl : k * 4 + 3 < us.length) :
    laidT ((((us.set (k * 4) (.int .i64 x.fl)).set (k * 4 + 1) (.int .i64 x.lo)).set (k * 4 + 2) (.int .i64 x.hi)).set (k * 4 + 3) (.bool x.nt)) xs (k + 1) := by
  intro i y hi hy
  rcases Nat.lt_or_ge i k with c | c
  · obtain ⟨h1, h2, h3, h4⟩ := h i y c hy
    have far : ∀ j, j < k * 4 → ((((us.set (k * 4) (.int .i64 x.fl)).set (k * 4 + 1) (.int .i64 x.lo)).set (k * 4 + 2) (.int .i64 x.hi)).set (k * 4 + 3) (.bool x.nt))[j]? = us[j]? := fun j hj => by
      rw [List.getElem?_set_ne (by omega), List.getElem?_set_ne (by omega), List.getElem?_set_ne (by omega), List.getElem?_set_ne (by omega)]
    exact ⟨(far _ (by omega)).trans h1, (far _ (by omega)).trans h2, (far _ (by omega)).trans h3, (far _ (by omega)).trans h4⟩
  · obtain rfl : i = k := by omega
    rw [hx] at hy
    injection hy with hy
    subst hy
    refine ⟨?_, ?_, ?_, ?_⟩
    · rw [List.getElem?_set_ne (by omega), List.getElem?_set_ne (by omega), List.getElem?_set_ne (by omega), List.getElem?_set_self (by omega)]
    · rw [List.getElem?_set_ne (by omega), List.getElem?_set_ne (by omega), List.getElem?_set_self (by simp; omega)]
    · rw [List.getElem?_set_ne (by omega), List.getElem?_set_self (by simp; omega)]
    · rw [List.getElem?_set_self (by simp; omega)]
theorem laidT_all {us : List Value} {xs : TS} (h : laidT us xs xs.length) (hl : us.length = xs.length * 4) : us = flat4 xs := by
  apply List.ext_getElem?
  intro j
  rcases Nat.lt_or_ge j us.length with c | c
  · have hj : j / 4 < xs.length := by omega
    obtain ⟨a1, a2, a3, a4⟩ := h (j / 4) _ hj (List.getElem?_eq_getElem hj)
    obtain ⟨f1, f2, f3, f4⟩ := flat4_get xs (j / 4) _ (List.getElem?_eq_getElem hj)
    have hm : j = j / 4 * 4 ∨ j = j / 4 * 4 + 1 ∨ j = j / 4 * 4 + 2 ∨ j = j / 4 * 4 + 3 := by omega
    rcases hm with e | e | e | e
    · rw [← e] at a1 f1; rw [a1, f1]
    · rw [← e] at a2 f2; rw [a2, f2]
    · rw [← e] at a3 f3; rw [a3, f3]
    · rw [← e] at a4 f4; rw [a4, f4]
  · rw [List.getElem?_eq_none c, List.getElem?_eq_none (by rw [flat4_length]; omega)]

set_option maxHeartbeats 2000000 in
theorem toTestS_any (A : Option Addr) (n c : Nat) (xs : TS) (w : World) (h : Rt w A n c xs) (hn : n ≤ 1048576) :
    Calls Tryd.prog 36 #[.slice A n c] w (OwnsT 32 xs w) := by
  obtain rfl : xs.length = n := h.len
  obtain ⟨i0, hi, hz0, hz1, hz2⟩ := info_parts infoTest
  have hbytes : i0.bytes * xs.length ≤ 281474976710656 := by rw [hz2]; omega
  have hmax : xs.length ≤ maxLen := by unfold maxLen; omega
  go_enter Tryd.func36, Tryd.ntmps36
  go_wp2_with (first
    | (at_make; refine wpList_make_full _ rfl (.tmp 6) (.tmp 6) 39 rfl w.heap.size 32 i0 _ 4 Tryd.underlying39 hi hz0 hz1 .i64 .i64 xs.length xs.length xs.length rfl rfl rfl rfl hbytes hmax (Nat.le_refl _) ?_; intro w1 own1 hg1))
  have hb1 : Below w.heap.size w w1 := (Below.refl _ _).grown hg1 (Nat.le_refl _) (by simp)
  have HO1 := Lib.hid own1
  have HB1 := Lib.hid hb1
  clear own1 hg1 hb1
  go_loopw [4] (fun i wr => ∃ (k : Nat) (us : List Value), k ≤ xs.length ∧ i = .int .i64 k ∧ wr.ownsRow w.heap.size 32 4 (.slice (some ⟨w.heap.size, 0, none⟩) xs.length xs.length) xs.length us ∧ laidT us xs k ∧ Below w.heap.size w wr)
    (fun i _ => xs.length - (intOf i).toNat)
  case atStart => exact ⟨0, _, Nat.zero_le _, rfl, HO1.out, fun i x h0 => by omega, HB1.out⟩
  case round =>
    obtain ⟨k, us, hk, rfl, own, hlaid, hb⟩ := hrel
    clear HO1 HB1
    by_cases hkn : k < xs.length
    · obtain ⟨b, o, rfl, hbl, hc0⟩ := (h.below hb).at_ hkn
      obtain ⟨c1, c2, c3, c4⟩ := hc0 hkn
      obtain ⟨x, hx⟩ : ∃ x, x = xs[k] := ⟨_, rfl⟩
      rw [← hx] at c1 c2 c3 c4
      have HX := Lib.hid (show xs[k]? = some x by rw [hx]; exact List.getElem?_eq_getElem hkn)
      obtain ⟨x1, x2, x3, x4⟩ := x
      simp only at c1 c2 c3 c4
      have HO := Lib.hid own
      have HL := Lib.hid hlaid
      have HH := Lib.hid h
      have hs := hb.size
      have hgl : w.heap.size < wr.heap.size := (own.lt _ rfl).2
      have hul := own.1
      have HB := Lib.hid hb
      clear hc0 hx own h hlaid
      go_wp2_with fail
      refine (toTest_any x1 x2 x3 x4 _).mono ?_
      rintro e w2 ⟨rfl, hb2⟩
      have own2 := ownS_below HO.out hb2
      have H2 := Lib.hid (chain HB.out hb2 hs)
      have d1 := own2.cellAt (k * 4) (by omega)
      have d2 := own2.cellAt (k * 4 + 1) (by omega)
      have d3 := own2.cellAt (k * 4 + 2) (by omega)
      have d4 := own2.cellAt (k * 4 + 3) (by omega)
      rw [List.getElem?_eq_getElem (by omega)] at d1 d2 d3 d4
      generalize us[k * 4] = y1 at d1
      generalize us[k * 4 + 1] = y2 at d2
      generalize us[k * 4 + 2] = y3 at d3
      generalize us[k * 4 + 3] = y4 at d4
      have e1 := own2.frozenAt (k * 4)
      have e2 := own2.frozenAt (k * 4 + 1)
      have e3 := own2.frozenAt (k * 4 + 2)
      have e4 := own2.frozenAt (k * 4 + 3)
      have hz : w.heap.size < w2.heap.size := (own2.lt _ rfl).2
      have HO2 := Lib.hid own2
      clear HO hb2 own2 hb HB c1 c2 c3 c4
      go_wp2
      go_roundw
      case rel =>
        have s1 := (HO2.out.stored (k * 4) (.int .i64 x1)).1
        have s2 := (s1.stored (k * 4 + 1) (.int .i64 x2)).1
        have s3 := (s2.stored (k * 4 + 2) (.int .i64 x3)).1
        have s4 := (s3.stored (k * 4 + 3) (.bool x4)).1
        exact ⟨k + 1, _, by omega, by go_num, s4, laidT_step HL.out HX.out (by omega), (((H2.out.setCell (by simp) _).setCell (by simp) _).setCell (by simp) _).setCell (by simp) _⟩
      case measure => simp [intOf]; omega
    · obtain rfl : k = xs.length := by omega
      have hu := laidT_all hlaid (by have := own.1; omega)
      subst hu
      have HO := Lib.hid own
      clear own hlaid h
      go_wp2
      go_ret
      exact ⟨_, _, rfl, HO.out, hb⟩
end Go.Proofs.YtoapnjlpmjcloaaDoor
