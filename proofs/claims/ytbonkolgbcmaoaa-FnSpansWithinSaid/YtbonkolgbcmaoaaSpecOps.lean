/-
  WALKS: spec.SpansMeet, SpansOther, SpansLess, SpansWithin: 'opF'.
-/
import Derived.Test.YtbonkolgbcmaoaaMeet
import Derived.Test.YtbonkolgbcmaoaaOther
import Derived.Test.YtbonkolgbcmaoaaSpecValid
import Derived.Test.YtbonkolgbcmaoaaEmpty
namespace Go.Proofs.Ytbonkolgbcmaoaa
open Go.ChangeShapes Go.WideShapes Go.ChangeAt Go.RowKit Go.Sort Pf

set_option maxHeartbeats 1000000 in
theorem sSpansMeet_any (A : Option Addr) (n c : Nat) (xs : PS) (B : Option Addr) (m d : Nat) (ys : PS) (top : Int) (w : World) (h : Rd w A n c xs) (h' : Rd w B m d ys) :
    Calls Try.prog 34 #[.slice A n c, .slice B m d, .int .i64 top] w (Owns 30 (opF (fun p q => p && q) xs ys top) w) := by
  have CA := Lib.hid (sSpansValid_any A n c xs top w h)
  cases hv : valid xs top with
  | false =>
    rw [hv] at CA
    have hop : opF (fun p q => p && q) xs ys top = [] := by simp [opF, hv]
    rw [hop]
    clear hop hv h h'
    go_enter Try.func34, Try.ntmps34
    go_wp2_with (go_at_call 21; refine (CA.out).mono ?_; rintro e w1 ⟨rfl, hb1⟩)
    go_ret
    exact owns_empty hb1
  | true =>
    rw [hv] at CA
    have CB := Lib.hid (fun W (H : Below w.heap.size w W) => sSpansValid_any B m d ys top W (h'.below H))
    cases hv' : valid ys top with
    | false =>
      rw [hv'] at CB
      have hop : opF (fun p q => p && q) xs ys top = [] := by simp [opF, hv']
      rw [hop]
      clear hop hv hv' h h'
      go_enter Try.func34, Try.ntmps34
      go_wp2_with fail
      refine (CA.out).mono ?_
      rintro e w1 ⟨rfl, hb1⟩
      go_wp2_with fail
      refine (CB.out w1 hb1).mono ?_
      rintro e w2 ⟨rfl, hb2⟩
      have H := chain hb1 hb2 hb1.size
      go_wp2
      go_ret
      exact owns_empty H
    | true =>
      rw [hv'] at CB
      have hn : n ≤ 40 := by have := (valid_iff.1 hv).2.1; have := h.len; omega
      have hm : m ≤ 40 := by have := (valid_iff.1 hv').2.1; have := h'.len; omega
      have hop : opF (fun p q => p && q) xs ys top = capF (meetF xs ys) := by rw [meetF_eq (valid_iff.1 hv).1.1 (valid_F hv) (valid_F hv')]; simp [opF, hv, hv']
      rw [hop]
      have CM := Lib.hid (fun W (H : Below w.heap.size w W) => l2Meet_any A n c xs B m d ys W (h.below H) (h'.below H) (by omega) (by omega))
      clear hop hv hv' h h'
      go_enter Try.func34, Try.ntmps34
      go_wp2_with fail
      refine (CA.out).mono ?_
      rintro e w1 ⟨rfl, hb1⟩
      go_wp2_with fail
      refine (CB.out w1 hb1).mono ?_
      rintro e w2 ⟨rfl, hb2⟩
      have H := chain hb1 hb2 hb1.size
      go_wp2_with fail
      refine (CM.out w2 H).mono ?_
      rintro e w3 ⟨A3, c3, rfl, own3, hb3⟩
      have H3 := chain H hb3 H.size
      by_cases hl : (meetF xs ys).length ≤ 40
      · go_wp2_with fail
        refine (CM.out w3 H3).mono ?_
        rintro e w4 ⟨A4, c4, rfl, own4, hb4⟩
        go_wp2
        go_ret
        rw [show capF (meetF xs ys) = meetF xs ys from if_pos hl]
        exact ⟨A4, c4, rfl, own_mono own4 H3.size, chain H3 hb4 H3.size⟩
      · have hl1 : (40 : Int) < ((meetF xs ys).length : Nat) := by omega
        go_wp2
        go_ret
        rw [show capF (meetF xs ys) = [] from if_neg hl]
        exact owns_empty H3

set_option maxHeartbeats 1000000 in
theorem sSpansOther_any (A : Option Addr) (n c : Nat) (xs : PS) (top : Int) (w : World) (h : Rd w A n c xs) :
    Calls Try.prog 31 #[.slice A n c, .int .i64 top] w (Owns 30 (otherV xs top) w) := by
  unfold otherV
  have CA := Lib.hid (sSpansValid_any A n c xs top w h)
  cases hv : valid xs top with
  | false =>
    rw [hv] at CA
    rw [if_neg (by simp)]
    clear hv h
    go_enter Try.func31, Try.ntmps31
    go_wp2_with fail
    refine (CA.out).mono ?_
    rintro e w1 ⟨rfl, hb1⟩
    go_wp2
    go_ret
    exact owns_empty hb1
  | true =>
    rw [hv] at CA
    rw [if_pos rfl]
    have hn : n ≤ 40 := by have := (valid_iff.1 hv).2.1; have := h.len; omega
    have ht := (valid_iff.1 hv).1
    have CM := Lib.hid (fun W (H : Below w.heap.size w W) => l2Other_any A n c xs top W (h.below H) (by omega) ht.1 ht.2 (valid_F hv))
    clear hv h
    go_enter Try.func31, Try.ntmps31
    go_wp2_with fail
    refine (CA.out).mono ?_
    rintro e w1 ⟨rfl, hb1⟩
    go_wp2_with fail
    refine (CM.out w1 hb1).mono ?_
    rintro e w3 ⟨A3, c3, rfl, own3, hb3⟩
    have H3 := chain hb1 hb3 hb1.size
    by_cases hl : (otherF top 0 xs).length ≤ 40
    · go_wp2_with fail
      refine (CM.out w3 H3).mono ?_
      rintro e w4 ⟨A4, c4, rfl, own4, hb4⟩
      go_wp2
      go_ret
      rw [show capF (otherF top 0 xs) = otherF top 0 xs from if_pos hl]
      exact ⟨A4, c4, rfl, own_mono own4 H3.size, chain H3 hb4 H3.size⟩
    · have hl1 : (40 : Int) < ((otherF top 0 xs).length : Nat) := by omega
      go_wp2
      go_ret
      rw [show capF (otherF top 0 xs) = [] from if_neg hl]
      exact owns_empty H3

set_option maxHeartbeats 1000000 in
theorem sSpansLess_any (A : Option Addr) (n c : Nat) (xs : PS) (B : Option Addr) (m d : Nat) (ys : PS) (top : Int) (w : World) (h : Rd w A n c xs) (h' : Rd w B m d ys) :
    Calls Try.prog 40 #[.slice A n c, .slice B m d, .int .i64 top] w (Owns 30 (opF (fun p q => p && !q) xs ys top) w) := by
  have CA := Lib.hid (sSpansValid_any A n c xs top w h)
  cases hv : valid xs top with
  | false =>
    rw [hv] at CA
    have hop : opF (fun p q => p && !q) xs ys top = [] := by simp [opF, hv]
    rw [hop]
    clear hop hv h h'
    go_enter Try.func40, Try.ntmps40
    go_wp2_with (go_at_call 21; refine (CA.out).mono ?_; rintro e w1 ⟨rfl, hb1⟩)
    go_ret
    exact owns_empty hb1
  | true =>
    rw [hv] at CA
    have CB := Lib.hid (fun W (H : Below w.heap.size w W) => sSpansValid_any B m d ys top W (h'.below H))
    cases hv' : valid ys top with
    | false =>
      rw [hv'] at CB
      have hop : opF (fun p q => p && !q) xs ys top = [] := by simp [opF, hv']
      rw [hop]
      clear hop hv hv' h h'
      go_enter Try.func40, Try.ntmps40
      go_wp2_with fail
      refine (CA.out).mono ?_
      rintro e w1 ⟨rfl, hb1⟩
      go_wp2_with fail
      refine (CB.out w1 hb1).mono ?_
      rintro e w2 ⟨rfl, hb2⟩
      have H := chain hb1 hb2 hb1.size
      go_wp2
      go_ret
      exact owns_empty H
    | true =>
      rw [hv'] at CB
      have hn : n ≤ 40 := by have := (valid_iff.1 hv).2.1; have := h.len; omega
      have hm : m ≤ 40 := by have := (valid_iff.1 hv').2.1; have := h'.len; omega
      have hop : opF (fun p q => p && !q) xs ys top = capF (meetF xs (otherF top 0 ys)) := by rw [meet_other (valid_iff.1 hv).1.1 (valid_F hv) (valid_F hv')]; simp [opF, hv, hv']
      rw [hop]
      have ht := (valid_iff.1 hv).1
      have hol : (otherF top 0 ys).length ≤ 41 := by have := otherF_length top ys 0; have := h'.len; omega
      have CO := Lib.hid (fun W (H : Below w.heap.size w W) => l2Other_any B m d ys top W (h'.below H) (by omega) ht.1 ht.2 (valid_F hv'))
      have CM := Lib.hid (fun W (H : Below w.heap.size w W) B m d (h' : Rd W B m d (otherF top 0 ys)) (hm : m ≤ 41) => l2Meet_any A n c xs B m d _ W (h.below H) h' (by omega) (by omega))
      clear hop hv hv' h h'
      go_enter Try.func40, Try.ntmps40
      go_wp2_with fail
      refine (CA.out).mono ?_
      rintro e w1 ⟨rfl, hb1⟩
      go_wp2_with fail
      refine (CB.out w1 hb1).mono ?_
      rintro e w2 ⟨rfl, hb2⟩
      have H := chain hb1 hb2 hb1.size
      go_wp2_with fail
      refine (CO.out w2 H).mono ?_
      rintro e v3 ⟨B3, d3, rfl, own2, hb3⟩
      have H2 := chain H hb3 H.size
      go_wp2_with fail
      refine (CM.out v3 H2 _ _ _ (own_rd own2) hol).mono ?_
      rintro e w3 ⟨A3, c3, rfl, own3, hb3'⟩
      have H3 := chain H2 hb3' H2.size
      by_cases hl : (meetF xs (otherF top 0 ys)).length ≤ 40
      · go_wp2_with fail
        refine (CO.out w3 H3).mono ?_
        rintro e v4 ⟨B4, d4, rfl, own4', hb4'⟩
        have H4 := chain H3 hb4' H3.size
        go_wp2_with fail
        refine (CM.out v4 H4 _ _ _ (own_rd own4') hol).mono ?_
        rintro e w4 ⟨A4, c4, rfl, own4, hb4⟩
        go_wp2
        go_ret
        rw [show capF (meetF xs (otherF top 0 ys)) = meetF xs (otherF top 0 ys) from if_pos hl]
        exact ⟨A4, c4, rfl, own_mono own4 H4.size, chain H4 hb4 H4.size⟩
      · have hl1 : (40 : Int) < ((meetF xs (otherF top 0 ys)).length : Nat) := by omega
        go_wp2
        go_ret
        rw [show capF (meetF xs (otherF top 0 ys)) = [] from if_neg hl]
        exact owns_empty H3

end Go.Proofs.Ytbonkolgbcmaoaa
