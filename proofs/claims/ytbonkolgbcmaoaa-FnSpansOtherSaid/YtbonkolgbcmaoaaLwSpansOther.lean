/-
  THE WALK of the law FnSpansOther.
-/
import Derived.Test.YtbonkolgbcmaoaaLwKit
import Derived.Test.YtbonkolgbcmaoaaImplOps
import Derived.Test.YtbonkolgbcmaoaaUnion
import Derived.Test.YtbonkolgbcmaoaaDrPair
import Derived.Test.YtbonkolgbcmaoaaIHave
import Derived.Test.YtbonkolgbcmaoaaSetOps
import Derived.Test.YtbonkolgbcmaoaaSize
namespace Go.Proofs.Ytbonkolgbcmaoaa
open Go.ChangeShapes Go.WideShapes Go.ChangeAt Go.RowKit Go.Sort Pf
theorem validF_ahead {top : Int} {s : Int × Int} : ∀ {xs : PS} {last : Int}, validF last top xs = true → s ∈ xs → last + 1 < s.1 ∧ memB (s.1 - 1) xs = false
  | [], _, _, hs => by cases hs
  | t :: r, last, h, hs => by
    obtain ⟨h1, h2, h3, h4⟩ := validF_cons.1 h
    rcases List.mem_cons.1 hs with rfl | hs
    · refine ⟨h1, ?_⟩
      rw [memB_cons, validF_low h4 (by omega), Bool.or_false, ← Bool.not_eq_true, inB_iff]
      omega
    · obtain ⟨i1, i2⟩ := validF_ahead h4 hs
      refine ⟨by omega, ?_⟩
      rw [memB_cons, i2, Bool.or_false, ← Bool.not_eq_true, inB_iff]
      omega
theorem other_at {xs : PS} {top : Int} (hv : valid xs top = true) (hl : xs.length < 40) {k : Nat} (hk : k < xs.length) :
    (0 ≤ xs[k].1 ∧ xs[k].1 ≤ 65535) ∧ memB xs[k].1 (otherV xs top) = false ∧ memB xs[k].2 (otherV xs top) = false ∧ (0 < xs[k].1 → memB (xs[k].1 - 1) (otherV xs top) = true) := by
  obtain ⟨ht, _, hF⟩ := valid_iff.1 hv
  have hm := List.getElem_mem hk
  obtain ⟨a1, a2, a3⟩ := validF_all (Int.le_refl _) hF _ hm
  obtain ⟨_, e2⟩ := validF_ahead hF hm
  have ho := (other_law hv hl).2.2
  generalize xs[k] = s at *
  refine ⟨⟨a1, by omega⟩, ?_, ?_, ?_⟩
  · rw [ho, memB_iff.2 ⟨s, hm, Int.le_refl _, a2⟩]; simp
  · rw [ho, memB_iff.2 ⟨s, hm, a2, Int.le_refl _⟩]; simp
  · intro h0
    rw [ho, e2]; simp; omega

set_option maxRecDepth 100000 in
set_option maxHeartbeats 1000000 in
theorem walkFnSpansOther (A : Option Addr) (n c : Nat) (zs : List Int) (w : World) (h : Rb w A n c zs) :
    Calls Try.prog 7 #[.slice A n c] w fun e w' => e = .returned (.bool true) ∧ Below w.heap.size w w' := by
  have hmax : n ≤ maxLen := Nat.le_trans h.2.1 h.2.2.1
  unfold maxLen at hmax
  have CD := Lib.hid (drawSpansOther_any A n c zs w h)
  clear h
  by_cases hn : n ≤ 1048576
  · have hn1 : (n : Int) ≤ 1048576 := by omega
    clear hn
    go_enter Try.func7, Try.ntmps7
    go_wp2_with fail
    refine (CD.out).mono ?_
    rintro e w1 ⟨A1, c1, xs, top, rfl, ⟨r1, n1⟩, hP, hb1⟩
    have H := Lib.hid hb1
    have Ra := Lib.hid r1
    obtain ⟨ht, hx⟩ := hP
    obtain ⟨ht0, ht1⟩ := ht.bd
    clear hb1 r1 n1 ht CD
    obtain ⟨X, hX⟩ : ∃ Q_, otherV xs top = Q_ := ⟨_, rfl⟩
    have HX := Lib.hid hX
    clear hX
    go_wp2_with fail
    refine (owns_as (iSpansOther_any A1 xs.length c1 xs top _ Ra.out) HX.out).mono ?_
    rintro e w2 ⟨A_Rx, c_Rx, rfl, own2, hb2⟩
    have Rx := Lib.hid (own_rd own2)
    clear own2
    replace Ra := Lib.hid (Ra.out.below hb2)
    replace H := Lib.hid (chain H.out hb2 H.out.size)
    clear hb2
    go_wp2_with fail
    refine (owns_as (sSpansOther_any A1 xs.length c1 xs top _ Ra.out) HX.out).mono ?_
    rintro e w3 ⟨A_Ry, c_Ry, rfl, own3, hb3⟩
    have Ry := Lib.hid (own_rd own3)
    clear own3
    replace Ra := Lib.hid (Ra.out.below hb3)
    replace Rx := Lib.hid (Rx.out.below hb3)
    replace H := Lib.hid (chain H.out hb3 H.out.size)
    clear hb3
    go_wp2_with fail
    refine (same_yes Rx.out Ry.out rfl).mono ?_
    rintro e w4 ⟨rfl, hb4⟩
    replace Ra := Lib.hid (Ra.out.below hb4)
    replace Rx := Lib.hid (Rx.out.below hb4)
    replace Ry := Lib.hid (Ry.out.below hb4)
    replace H := Lib.hid (chain H.out hb4 H.out.size)
    clear hb4
    cases hva : valid xs top with
    | false =>
      have HVA := Lib.hid hva
      clear hva
      go_wp2_with fail
      refine (bool_as (sSpansValid_any A1 xs.length c1 xs top _ Ra.out) HVA.out).mono ?_
      rintro e w5 ⟨rfl, hb5⟩
      replace Ra := Lib.hid (Ra.out.below hb5)
      replace Rx := Lib.hid (Rx.out.below hb5)
      replace H := Lib.hid (chain H.out hb5 H.out.size)
      clear hb5
      go_wp2_with fail
      refine (alive_any _).mono ?_
      rintro e w6 ⟨rfl, hb6⟩
      replace Ra := Lib.hid (Ra.out.below hb6)
      replace Rx := Lib.hid (Rx.out.below hb6)
      replace H := Lib.hid (chain H.out hb6 H.out.size)
      clear hb6
      go_wp2
      go_ret
      exact ⟨rfl, H.out⟩
    | true =>
      have HVA := Lib.hid hva
      clear hva
      have hl1 : xs.length ≤ 7 := by rcases hx with h | h; exact h; rw [HVA.out] at h; cases h
      clear hx
      have h40 : (((xs.length : Nat) : Int) == 40) = false := by simp; omega
      have HO := Lib.hid (fun k (hk : k < xs.length) => other_at HVA.out (by omega) hk)
      have HL := Lib.hid (other_law HVA.out (by omega))
      go_wp2_with fail
      refine (bool_as (sSpansValid_any A1 xs.length c1 xs top _ Ra.out) HVA.out).mono ?_
      rintro e w5 ⟨rfl, hb5⟩
      replace Ra := Lib.hid (Ra.out.below hb5)
      replace Rx := Lib.hid (Rx.out.below hb5)
      replace H := Lib.hid (chain H.out hb5 H.out.size)
      clear hb5
      go_wp2
      go_loopw [6] (fun i wr => ∃ k : Nat, k ≤ xs.length ∧ i = .int .i64 k ∧ Rd wr A1 xs.length c1 xs ∧ Rd wr A_Rx X.length c_Rx X ∧ Below w.heap.size w wr) (fun i _ => xs.length - (intOf i).toNat)
      case atStart => exact ⟨0, Nat.zero_le _, rfl, Ra.out, Rx.out, H.out⟩
      case round =>
        clear Ra Rx H
        obtain ⟨k, hk, rfl, ra, rx, hb⟩ := hrel
        have Rx := Lib.hid rx
        have H := Lib.hid hb
        by_cases hkn : k < xs.length
        · obtain ⟨b, o, rfl, hbl, hc0⟩ := ra.at_ hkn
          obtain ⟨d1, d2⟩ := hc0 hkn
          have hO := HO.out k hkn
          rw [HX.out] at hO
          generalize xs[k] = s at d1 d2 hO
          obtain ⟨lo, hi⟩ := s
          simp only at d1 d2 hO
          obtain ⟨⟨hlo0, hlo1⟩, q1, q2, q3⟩ := hO
          have Q1 := Lib.hid q1
          have Q2 := Lib.hid q2
          have Q3 := Lib.hid q3
          have Ra := Lib.hid ra
          have hki : (k : Int) < xs.length := by omega
          have hk0 : (0 : Int) ≤ k := by omega
          clear ra rx hb hc0 q1 q2 q3 hk
          go_wp2_with fail
          refine (bool_as (iSpansHave_any A_Rx X.length c_Rx X lo _ Rx.out) Q1.out).mono ?_
          rintro e w6 ⟨rfl, hb6⟩
          replace Ra := Lib.hid (Ra.out.below hb6)
          replace Rx := Lib.hid (Rx.out.below hb6)
          replace d1 := keepCell hb6 d1
          replace d2 := keepCell hb6 d2
          replace H := Lib.hid (chain H.out hb6 H.out.size)
          clear hb6
          go_wp2_with fail
          refine (bool_as (iSpansHave_any A_Rx X.length c_Rx X hi _ Rx.out) Q2.out).mono ?_
          rintro e w7 ⟨rfl, hb7⟩
          replace Ra := Lib.hid (Ra.out.below hb7)
          replace Rx := Lib.hid (Rx.out.below hb7)
          replace d1 := keepCell hb7 d1
          replace d2 := keepCell hb7 d2
          replace H := Lib.hid (chain H.out hb7 H.out.size)
          clear hb7
          by_cases h0 : 0 < lo
          · skip
            go_wp2_with fail
            refine (bool_as (iSpansHave_any A_Rx X.length c_Rx X (lo - 1) _ Rx.out) (Q3.out h0)).mono ?_
            rintro e w8 ⟨rfl, hb8⟩
            replace Ra := Lib.hid (Ra.out.below hb8)
            replace Rx := Lib.hid (Rx.out.below hb8)
            replace d1 := keepCell hb8 d1
            replace d2 := keepCell hb8 d2
            replace H := Lib.hid (chain H.out hb8 H.out.size)
            clear hb8
            go_wp2
            go_roundw
            case rel => exact ⟨k + 1, by omega, by go_num, Ra.out, Rx.out, H.out⟩
            case measure => (simp [intOf]; try omega)
          · obtain rfl : lo = 0 := by omega
            clear h0
            go_wp2
            go_roundw
            case rel => exact ⟨k + 1, by omega, by go_num, Ra.out, Rx.out, H.out⟩
            case measure => (simp [intOf]; try omega)
        · obtain rfl : k = xs.length := by omega
          have Ra := Lib.hid ra
          clear ra rx hb hkn
          go_wp2_with fail
          refine (owns_as (iSpansOther_any A_Rx X.length c_Rx X top _ Rx.out) (show otherV X top = xs by rw [← HX.out]; exact HL.out.2.1)).mono ?_
          rintro e w8 ⟨A_Rz, c_Rz, rfl, own8, hb8⟩
          have Rz := Lib.hid (own_rd own8)
          clear own8
          replace Ra := Lib.hid (Ra.out.below hb8)
          replace Rx := Lib.hid (Rx.out.below hb8)
          replace H := Lib.hid (chain H.out hb8 H.out.size)
          clear hb8
          go_wp2_with fail
          refine (same_yes Rz.out Ra.out rfl).mono ?_
          rintro e w9 ⟨rfl, hb9⟩
          replace Ra := Lib.hid (Ra.out.below hb9)
          replace Rx := Lib.hid (Rx.out.below hb9)
          replace Rz := Lib.hid (Rz.out.below hb9)
          replace H := Lib.hid (chain H.out hb9 H.out.size)
          clear hb9
          go_wp2_with fail
          refine (bool_as (iSpansValid_any A_Rx X.length c_Rx X top _ Rx.out) (show valid X top = true by rw [← HX.out]; exact HL.out.1)).mono ?_
          rintro e w10 ⟨rfl, hb10⟩
          replace Ra := Lib.hid (Ra.out.below hb10)
          replace Rx := Lib.hid (Rx.out.below hb10)
          replace Rz := Lib.hid (Rz.out.below hb10)
          replace H := Lib.hid (chain H.out hb10 H.out.size)
          clear hb10
          go_wp2
          go_ret
          exact ⟨rfl, H.out⟩
  · have hn1 : (1048576 : Int) < n := by omega
    clear hn
    go_enter Try.func7, Try.ntmps7
    go_wp2
    go_ret
    exact ⟨rfl, Below.refl _ _⟩
end Go.Proofs.Ytbonkolgbcmaoaa
