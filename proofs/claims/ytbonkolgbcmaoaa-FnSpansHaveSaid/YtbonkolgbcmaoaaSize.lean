/-
  WALKS: spec.SpansSize, impl.SpansSize: 'sizeV'.
-/
import Derived.Test.YtbonkolgbcmaoaaRows
import Derived.Test.YtbonkolgbcmaoaaMem
import Derived.Test.YtbonkolgbcmaoaaSpecValid
import Derived.Test.YtbonkolgbcmaoaaSpansValid
import Derived.Test.YtbonkolgbcmaoaaOps
import Derived.Test.YtbonkolgbcmaoaaSetSize
import Derived.WalkLawsBesides
import Derived.BigQuiet
import Derived.Deep.QuietTactic
import Derived.Lib.QuietBelow
import Derived.Outline
import Derived.Handy
namespace Go.Proofs.Ytbonkolgbcmaoaa
open Go.ChangeShapes Go.WideShapes Go.ChangeAt Go.RowKit Go.Sort Pf

theorem sizeF_bound {top : Int} : ∀ {xs : PS} {last : Int}, validF last top xs = true → 0 ≤ sizeF xs ∧ sizeF xs ≤ max 0 (top - last)
  | [], last, _ => by simp only [sizeF]; omega
  | s :: r, last, h => by
    obtain ⟨h1, h2, h3, h4⟩ := validF_cons.1 h
    have := sizeF_bound h4
    simp only [sizeF]
    omega

def SzInv (xs ys : PS) (top m : Int) : Prop := valid xs top = true → 0 ≤ m ∧ m + sizeF ys = sizeF xs ∧ m + sizeF ys ≤ 65537 ∧ ∃ last, -2 ≤ last ∧ validF last top ys = true

theorem szInv_start (xs : PS) (top : Int) : SzInv xs xs top 0 := fun h => by
  obtain ⟨ht, _, hv⟩ := valid_iff.1 h
  have := sizeF_bound hv
  exact ⟨by omega, by omega, by omega, -2, by omega, hv⟩

theorem szInv_next {xs r : PS} {s : Int × Int} {top m : Int} (h : SzInv xs (s :: r) top m) : SzInv xs r top (m + (s.2 - s.1 + 1)) ∧ (valid xs top = true → 0 ≤ m ∧ m ≤ 65537 ∧ 0 ≤ s.1 ∧ s.1 ≤ s.2 ∧ s.2 ≤ 65535) := by
  refine ⟨fun hv => ?_, fun hv => ?_⟩
  all_goals
    obtain ⟨h0, h1, h2, last, hl, h3⟩ := h hv
    have ht := (valid_iff.1 hv).1
    obtain ⟨k1, k2, k3, k4⟩ := validF_cons.1 h3
    have hb := sizeF_bound k4
    simp only [sizeF] at h1 h2
  · exact ⟨by omega, by omega, by omega, s.2, by omega, k4⟩
  · exact ⟨by omega, by omega, by omega, by omega, by omega⟩

theorem szInv_spec {xs r : PS} {s : Int × Int} {top m : Int} (h : SzInv xs (s :: r) top m) : SzInv xs r top (IntKind.i64.wrap (IntKind.i64.wrap (IntKind.i64.wrap (m + s.2) - s.1) + 1)) := fun hv => by
  obtain ⟨h1, h2⟩ := szInv_next h
  obtain ⟨a, b, c, d, e⟩ := h2 hv
  rw [IntWalk.i64_in (m + s.2) (by omega), IntWalk.i64_in (m + s.2 - s.1) (by omega), IntWalk.i64_in (m + s.2 - s.1 + 1) (by omega), show m + s.2 - s.1 + 1 = m + (s.2 - s.1 + 1) from by omega]
  exact h1 hv

theorem szInv_end {xs : PS} {top m : Int} (h : SzInv xs [] top m) : sizeV xs top = if valid xs top then m else -1 := by
  unfold sizeV
  cases hv : valid xs top with
  | true =>
    have := (h hv).2.1
    simp only [sizeF] at this
    simp; omega
  | false => rfl

set_option maxHeartbeats 1000000 in
theorem sSpansSize_any (A : Option Addr) (n c : Nat) (xs : PS) (top : Int) (w : World) (h : Rd w A n c xs) :
    Calls Try.prog 24 #[.slice A n c, .int .i64 top] w fun e w' => e = .returned (.int .i64 (sizeV xs top)) ∧ Below w.heap.size w w' := by
  have hlen := h.len
  have hmax : n ≤ maxLen := Nat.le_trans h.2.1 h.2.2.1
  unfold maxLen at hmax
  have HLEN := Lib.hid hlen
  clear hlen
  go_enter Try.func24, Try.ntmps24
  go_wp2
  go_loopw [5, 6] (fun m i wr => ∃ (k : Nat) (q : Int), k ≤ n ∧ i = .int .i64 k ∧ m = .int .i64 q ∧ SzInv xs (xs.drop k) top q ∧ Below w.heap.size w wr) (fun _ i _ => n - (intOf i).toNat)
  case atStart => exact ⟨0, 0, Nat.zero_le _, rfl, rfl, szInv_start _ _, Below.refl _ _⟩
  case round =>
    obtain ⟨k, q, hk, rfl, rfl, hm, hb⟩ := hrel
    by_cases hkn : k < n
    · obtain ⟨b, o, rfl, hbl, hc0⟩ := (h.below hb).at_ hkn
      have hlx : k < xs.length := by have := HLEN.out; omega
      obtain ⟨c1, c2⟩ := hc0 hlx
      have hd : xs.drop k = xs[k] :: xs.drop (k + 1) := List.drop_eq_getElem_cons hlx
      rw [hd] at hm
      generalize xs[k] = x at c1 c2 hm
      obtain ⟨x1, x2⟩ := x
      have hm1 := szInv_spec hm
      simp only at c1 c2 hm1
      generalize hq1 : IntKind.i64.wrap (q + x2) = q1 at hm1
      generalize hq2 : IntKind.i64.wrap (q1 - x1) = q2 at hm1
      generalize hq3 : IntKind.i64.wrap (q2 + 1) = q3 at hm1
      have HM := Lib.hid hm1
      have hki : (k : Int) < n := by omega
      have hk0 : (0 : Int) ≤ k := by omega
      clear hc0 h hd hm hm1
      go_wp2_with fail
      go_quiet (fail)
      clear hq1 hq2 hq3
      go_wp2
      go_roundw
      case rel => exact ⟨k + 1, q3, by omega, by go_num, rfl, HM.out, below_drewN hb _⟩
      case measure => simp [intOf]; omega
    · obtain rfl : k = n := by omega
      rw [List.drop_of_length_le (by have := HLEN.out; omega)] at hm
      have HR := h.below hb
      have hz := Lib.hid (szInv_end hm)
      cases hv : valid xs top with
      | true =>
        have C := Lib.hid (sSpansValid_any A k c xs top _ HR)
        rw [hv] at C
        have HV := Lib.hid hv
        clear hm HR hv h
        go_wp2_with (go_at_call 21; refine (C.out).mono ?_; rintro e w1 ⟨rfl, hb1⟩)
        go_ret
        refine ⟨ret_int ?_, chain hb hb1 hb.size⟩
        rw [hz.out, HV.out]; rfl
      | false =>
        have C := Lib.hid (sSpansValid_any A k c xs top _ HR)
        rw [hv] at C
        have HV := Lib.hid hv
        clear hm HR hv h
        go_wp2_with (go_at_call 21; refine (C.out).mono ?_; rintro e w1 ⟨rfl, hb1⟩)
        go_ret
        refine ⟨ret_int ?_, chain hb hb1 hb.size⟩
        rw [hz.out, HV.out]; rfl

theorem szInv_impl {xs r : PS} {s : Int × Int} {top m : Int} (hv : valid xs top = true) (h : SzInv xs (s :: r) top m) : SzInv xs r top (IntKind.i64.wrap (m + IntKind.i64.wrap (IntKind.i64.wrap (s.2 - s.1) + 1))) := by
  obtain ⟨h1, h2⟩ := szInv_next h
  obtain ⟨a, b, c, d, e⟩ := h2 hv
  rw [IntWalk.i64_in (s.2 - s.1) (by omega), IntWalk.i64_in (s.2 - s.1 + 1) (by omega), IntWalk.i64_in (m + (s.2 - s.1 + 1)) (by omega)]
  exact h1

set_option maxHeartbeats 1000000 in
theorem iSpansSize_any (A : Option Addr) (n c : Nat) (xs : PS) (top : Int) (w : World) (h : Rd w A n c xs) :
    Calls Try.prog 23 #[.slice A n c, .int .i64 top] w fun e w' => e = .returned (.int .i64 (sizeV xs top)) ∧ Below w.heap.size w w' := by
  have hlen := h.len
  have hmax : n ≤ maxLen := Nat.le_trans h.2.1 h.2.2.1
  unfold maxLen at hmax
  have HLEN := Lib.hid hlen
  have C := Lib.hid (iSpansValid_any A n c xs top w h)
  clear hlen
  go_enter Try.func23, Try.ntmps23
  cases hv : valid xs top with
  | false =>
    rw [hv] at C
    have HV := Lib.hid hv
    clear hv h
    go_wp2_with (go_at_call 20; refine (C.out).mono ?_; rintro e w1 ⟨rfl, hb1⟩)
    go_ret
    refine ⟨ret_int ?_, hb1⟩
    unfold sizeV; rw [HV.out]; rfl
  | true =>
    rw [hv] at C
    have HV := Lib.hid hv
    clear hv
    go_wp2_with (go_at_call 20; refine (C.out).mono ?_; rintro e w1 ⟨rfl, hb1⟩)
    have hbs := hb1.size
    go_loopw [5, 14] (fun m i wr => ∃ (k : Nat) (q : Int), k ≤ n ∧ i = .int .i64 k ∧ m = .int .i64 q ∧ SzInv xs (xs.drop k) top q ∧ Below w.heap.size w wr) (fun _ i _ => n - (intOf i).toNat)
    case atStart => exact ⟨0, 0, Nat.zero_le _, rfl, rfl, szInv_start _ _, by first | exact hb1 | exact hb1.alloc hbs _⟩
    case round =>
      obtain ⟨k, q, hk, rfl, rfl, hm, hb⟩ := hrel
      have hs := hb.size
      by_cases hkn : k < n
      · obtain ⟨b, o, rfl, hbl, hc0⟩ := (h.below hb).at_ hkn
        have hlx : k < xs.length := by have := HLEN.out; omega
        obtain ⟨c1, c2⟩ := hc0 hlx
        have hd : xs.drop k = xs[k] :: xs.drop (k + 1) := List.drop_eq_getElem_cons hlx
        rw [hd] at hm
        generalize xs[k] = x at c1 c2 hm
        obtain ⟨x1, x2⟩ := x
        have hm1 := szInv_impl HV.out hm
        simp only at c1 c2 hm1
        generalize hq1 : IntKind.i64.wrap (x2 - x1) = q1 at hm1
        generalize hq2 : IntKind.i64.wrap (q1 + 1) = q2 at hm1
        generalize hq3 : IntKind.i64.wrap (q + q2) = q3 at hm1
        have HM := Lib.hid hm1
        have hki : (k : Int) < n := by omega
        have hk0 : (0 : Int) ≤ k := by omega
        clear hc0 h hd hm hm1
        go_wp2_with fail
        try (go_quiet (fail))
        clear hq1 hq2 hq3
        go_wp2
        go_roundw
        case rel => exact ⟨k + 1, q3, by omega, by go_num, rfl, HM.out, by first | exact hb | exact below_drewN hb _ | exact hb.alloc hs _ | exact below_drewN (hb.alloc hs _) _⟩
        case measure => simp [intOf]; omega
      · obtain rfl : k = n := by omega
        rw [List.drop_of_length_le (by have := HLEN.out; omega)] at hm
        have hz := Lib.hid (szInv_end hm)
        clear hm h
        go_wp2
        go_ret
        refine ⟨ret_int ?_, hb⟩
        rw [hz.out, HV.out]; rfl
end Go.Proofs.Ytbonkolgbcmaoaa
