/-
  WALKS: impl.limitSpans, unionSpans, meetSpans, lessSpans, SpansUnion, SpansMeet, SpansOther, SpansLess, SpansWithin; spec.SpansWithin.
-/
import Derived.Test.YtbonkolgbcmaoaaSweep
import Derived.Test.YtbonkolgbcmaoaaStretchU
import Derived.Test.YtbonkolgbcmaoaaIWithin
import Derived.Test.YtbonkolgbcmaoaaSpansValid
import Derived.Test.YtbonkolgbcmaoaaSpecOps
import Derived.Test.YtbonkolgbcmaoaaSetOps
namespace Go.Proofs.Ytbonkolgbcmaoaa
open Go.ChangeShapes Go.WideShapes Go.ChangeAt Go.RowKit Go.Sort Pf

/-- A call hands back a new slice that reads as ys, and a truth value. -/
def OwnsB (t : TypeId) (ys : PS) (b : Bool) (w : World) (e : Ending) (w' : World) : Prop :=
  ∃ A c, e = .returned (.tuple #[.slice A ys.length c, .bool b]) ∧ w'.ownsRow w.heap.size t 2 (.slice A ys.length c) ys.length (flat ys) ∧ Below w.heap.size w w'

theorem limit_yes (A : Option Addr) (n c : Nat) (w : World) (hn : n ≤ 40) : Calls Try.prog 71 #[.slice A n c] w fun e w' => e = .returned (.tuple #[.slice A n c, .bool true]) ∧ w = w' := by
  go_enter Try.func71, Try.ntmps71
  go_wp2
  go_ret2
  exact ⟨rfl, rfl⟩
theorem limit_no (A : Option Addr) (n c : Nat) (w : World) (hn : 40 < n) : Calls Try.prog 71 #[.slice A n c] w fun e w' => e = .returned (.tuple #[.slice none 0 0, .bool false]) ∧ w = w' := by
  go_enter Try.func71, Try.ntmps71
  go_wp2
  go_ret2
  exact ⟨rfl, rfl⟩

theorem capF_length (xs : PS) : (capF xs).length ≤ 40 := by unfold capF; split <;> simp_all
theorem opF_length (f : Bool → Bool → Bool) (xs ys : PS) (top : Int) : (opF f xs ys top).length ≤ 40 := by unfold opF; split; exact capF_length _; simp
theorem otherV_length (xs : PS) (top : Int) : (otherV xs top).length ≤ 40 := by unfold otherV; split; exact capF_length _; simp


theorem ownsB_nil {w w1 : World} {t : TypeId} {b : Bool} (H : Below w.heap.size w w1) : OwnsB t [] b w (.returned (.tuple #[.slice none 0 0, .bool b])) w1 := ⟨none, 0, rfl, ⟨rfl, .inl ⟨rfl, rfl⟩⟩, H⟩

set_option maxHeartbeats 1000000 in
theorem unionSpans_any (A : Option Addr) (n c : Nat) (xs : PS) (B : Option Addr) (m d : Nat) (ys : PS) (top : Int) (w : World) (h : Rd w A n c xs) (h' : Rd w B m d ys)
    (ht0 : 0 ≤ top) (ht1 : top ≤ 65535) (hn : n ≤ 1000) (hm : m ≤ 1000) (hx : validF (-2) top xs = true) (hy : validF (-2) top ys = true) :
    Calls Try.prog 58 #[.slice A n c, .slice B m d, .int .i64 top] w (OwnsB 30 (capF (setF (fun p q => p || q) xs ys top)) (decide ((setF (fun p q => p || q) xs ys top).length ≤ 40)) w) := by
  have C := Lib.hid (sweep_any (fun p q => p || q) 72 (fun args w => by rfl) (fun p q w => inEither_any p q w) A n c xs B m d ys top w h h' ht0 ht1 hn hm hx hy)
  generalize setF (fun p q => p || q) xs ys top = S at C ⊢
  clear h h' hx hy
  go_enter Try.func58, Try.ntmps58
  go_wp2_with fail
  refine (C.out).mono ?_
  rintro e w1 ⟨A1, c1, rfl, own1, hb1⟩
  have O1 := Lib.hid own1
  clear own1 C
  by_cases hl : S.length ≤ 40
  · have HS := Lib.hid (show capF S = S from if_pos hl)
    go_wp2_with fail
    refine (limit_yes A1 S.length c1 w1 hl).mono ?_
    rintro e w2 ⟨rfl, rfl⟩
    go_wp2
    go_ret2
    rw [HS.out, decide_eq_true hl]
    exact ⟨A1, c1, rfl, O1.out, hb1⟩
  · have HS := Lib.hid (show capF S = [] from if_neg hl)
    go_wp2_with fail
    refine (limit_no A1 S.length c1 w1 (by omega)).mono ?_
    rintro e w2 ⟨rfl, rfl⟩
    go_wp2
    go_ret2
    rw [HS.out, decide_eq_false hl]
    exact ownsB_nil hb1

set_option maxHeartbeats 1000000 in
theorem meetSpans_any (A : Option Addr) (n c : Nat) (xs : PS) (B : Option Addr) (m d : Nat) (ys : PS) (top : Int) (w : World) (h : Rd w A n c xs) (h' : Rd w B m d ys)
    (ht0 : 0 ≤ top) (ht1 : top ≤ 65535) (hn : n ≤ 1000) (hm : m ≤ 1000) (hx : validF (-2) top xs = true) (hy : validF (-2) top ys = true) :
    Calls Try.prog 61 #[.slice A n c, .slice B m d, .int .i64 top] w (OwnsB 30 (capF (setF (fun p q => p && q) xs ys top)) (decide ((setF (fun p q => p && q) xs ys top).length ≤ 40)) w) := by
  have C := Lib.hid (sweep_any (fun p q => p && q) 73 (fun args w => by rfl) (fun p q w => inBoth_any p q w) A n c xs B m d ys top w h h' ht0 ht1 hn hm hx hy)
  generalize setF (fun p q => p && q) xs ys top = S at C ⊢
  clear h h' hx hy
  go_enter Try.func61, Try.ntmps61
  go_wp2_with fail
  refine (C.out).mono ?_
  rintro e w1 ⟨A1, c1, rfl, own1, hb1⟩
  have O1 := Lib.hid own1
  clear own1 C
  by_cases hl : S.length ≤ 40
  · have HS := Lib.hid (show capF S = S from if_pos hl)
    go_wp2_with fail
    refine (limit_yes A1 S.length c1 w1 hl).mono ?_
    rintro e w2 ⟨rfl, rfl⟩
    go_wp2
    go_ret2
    rw [HS.out, decide_eq_true hl]
    exact ⟨A1, c1, rfl, O1.out, hb1⟩
  · have HS := Lib.hid (show capF S = [] from if_neg hl)
    go_wp2_with fail
    refine (limit_no A1 S.length c1 w1 (by omega)).mono ?_
    rintro e w2 ⟨rfl, rfl⟩
    go_wp2
    go_ret2
    rw [HS.out, decide_eq_false hl]
    exact ownsB_nil hb1

set_option maxHeartbeats 1000000 in
theorem lessSpans_any (A : Option Addr) (n c : Nat) (xs : PS) (B : Option Addr) (m d : Nat) (ys : PS) (top : Int) (w : World) (h : Rd w A n c xs) (h' : Rd w B m d ys)
    (ht0 : 0 ≤ top) (ht1 : top ≤ 65535) (hn : n ≤ 1000) (hm : m ≤ 1000) (hx : validF (-2) top xs = true) (hy : validF (-2) top ys = true) :
    Calls Try.prog 56 #[.slice A n c, .slice B m d, .int .i64 top] w (OwnsB 30 (capF (setF (fun p q => p && !q) xs ys top)) (decide ((setF (fun p q => p && !q) xs ys top).length ≤ 40)) w) := by
  have C := Lib.hid (sweep_any (fun p q => p && !q) 64 (fun args w => by rfl) (fun p q w => inFirstOnly_any p q w) A n c xs B m d ys top w h h' ht0 ht1 hn hm hx hy)
  generalize setF (fun p q => p && !q) xs ys top = S at C ⊢
  clear h h' hx hy
  go_enter Try.func56, Try.ntmps56
  go_wp2_with fail
  refine (C.out).mono ?_
  rintro e w1 ⟨A1, c1, rfl, own1, hb1⟩
  have O1 := Lib.hid own1
  clear own1 C
  by_cases hl : S.length ≤ 40
  · have HS := Lib.hid (show capF S = S from if_pos hl)
    go_wp2_with fail
    refine (limit_yes A1 S.length c1 w1 hl).mono ?_
    rintro e w2 ⟨rfl, rfl⟩
    go_wp2
    go_ret2
    rw [HS.out, decide_eq_true hl]
    exact ⟨A1, c1, rfl, O1.out, hb1⟩
  · have HS := Lib.hid (show capF S = [] from if_neg hl)
    go_wp2_with fail
    refine (limit_no A1 S.length c1 w1 (by omega)).mono ?_
    rintro e w2 ⟨rfl, rfl⟩
    go_wp2
    go_ret2
    rw [HS.out, decide_eq_false hl]
    exact ownsB_nil hb1

set_option maxHeartbeats 1000000 in
theorem iSpansUnion_any (A : Option Addr) (n c : Nat) (xs : PS) (B : Option Addr) (m d : Nat) (ys : PS) (top : Int) (w : World) (h : Rd w A n c xs) (h' : Rd w B m d ys) :
    Calls Try.prog 27 #[.slice A n c, .slice B m d, .int .i64 top] w (Owns 30 (opF (fun p q => p || q) xs ys top) w) := by
  have CA := Lib.hid (iSpansValid_any A n c xs top w h)
  cases hv : valid xs top with
  | false =>
    rw [hv] at CA
    have hop : opF (fun p q => p || q) xs ys top = [] := by simp [opF, hv]
    rw [hop]
    clear hop hv h h'
    go_enter Try.func27, Try.ntmps27
    go_wp2_with fail
    refine (CA.out).mono ?_
    rintro e w1 ⟨rfl, hb1⟩
    go_wp2
    go_ret
    exact owns_nil hb1
  | true =>
    rw [hv] at CA
    have CB := Lib.hid (fun W (H : Below w.heap.size w W) => iSpansValid_any B m d ys top W (h'.below H))
    cases hv' : valid ys top with
    | false =>
      rw [hv'] at CB
      have hop : opF (fun p q => p || q) xs ys top = [] := by simp [opF, hv']
      rw [hop]
      clear hop hv hv' h h'
      go_enter Try.func27, Try.ntmps27
      go_wp2_with fail
      refine (CA.out).mono ?_
      rintro e w1 ⟨rfl, hb1⟩
      go_wp2_with fail
      refine (CB.out w1 hb1).mono ?_
      rintro e w2 ⟨rfl, hb2⟩
      have H := chain hb1 hb2 hb1.size
      go_wp2
      go_ret
      exact owns_nil H
    | true =>
      rw [hv'] at CB
      have hn : n ≤ 40 := by have := (valid_iff.1 hv).2.1; have := h.len; omega
      have hm : m ≤ 40 := by have := (valid_iff.1 hv').2.1; have := h'.len; omega
      have ht := (valid_iff.1 hv).1
      have hop : opF (fun p q => p || q) xs ys top = capF (setF (fun p q => p || q) xs ys top) := by simp [opF, hv, hv']
      rw [hop]
      have CM := Lib.hid (fun W (H : Below w.heap.size w W) => unionSpans_any A n c xs B m d ys top W (h.below H) (h'.below H) ht.1 ht.2 (by omega) (by omega) (valid_F hv) (valid_F hv'))
      clear hop hv hv' h h'
      go_enter Try.func27, Try.ntmps27
      go_wp2_with fail
      refine (CA.out).mono ?_
      rintro e w1 ⟨rfl, hb1⟩
      go_wp2_with fail
      refine (CB.out w1 hb1).mono ?_
      rintro e w2 ⟨rfl, hb2⟩
      have H := chain hb1 hb2 hb1.size
      go_wp2_with fail
      refine (CM.out w2 H).mono ?_
      rintro e w3 ⟨A3, c3, rfl, own3, hb3⟩
      have O3 := Lib.hid own3
      clear own3
      go_wp2
      go_ret
      exact ⟨A3, c3, rfl, own_mono O3.out H.size, chain H hb3 H.size⟩

set_option maxHeartbeats 1000000 in
theorem iSpansMeet_any (A : Option Addr) (n c : Nat) (xs : PS) (B : Option Addr) (m d : Nat) (ys : PS) (top : Int) (w : World) (h : Rd w A n c xs) (h' : Rd w B m d ys) :
    Calls Try.prog 33 #[.slice A n c, .slice B m d, .int .i64 top] w (Owns 30 (opF (fun p q => p && q) xs ys top) w) := by
  have CA := Lib.hid (iSpansValid_any A n c xs top w h)
  cases hv : valid xs top with
  | false =>
    rw [hv] at CA
    have hop : opF (fun p q => p && q) xs ys top = [] := by simp [opF, hv]
    rw [hop]
    clear hop hv h h'
    go_enter Try.func33, Try.ntmps33
    go_wp2_with fail
    refine (CA.out).mono ?_
    rintro e w1 ⟨rfl, hb1⟩
    go_wp2
    go_ret
    exact owns_nil hb1
  | true =>
    rw [hv] at CA
    have CB := Lib.hid (fun W (H : Below w.heap.size w W) => iSpansValid_any B m d ys top W (h'.below H))
    cases hv' : valid ys top with
    | false =>
      rw [hv'] at CB
      have hop : opF (fun p q => p && q) xs ys top = [] := by simp [opF, hv']
      rw [hop]
      clear hop hv hv' h h'
      go_enter Try.func33, Try.ntmps33
      go_wp2_with fail
      refine (CA.out).mono ?_
      rintro e w1 ⟨rfl, hb1⟩
      go_wp2_with fail
      refine (CB.out w1 hb1).mono ?_
      rintro e w2 ⟨rfl, hb2⟩
      have H := chain hb1 hb2 hb1.size
      go_wp2
      go_ret
      exact owns_nil H
    | true =>
      rw [hv'] at CB
      have hn : n ≤ 40 := by have := (valid_iff.1 hv).2.1; have := h.len; omega
      have hm : m ≤ 40 := by have := (valid_iff.1 hv').2.1; have := h'.len; omega
      have ht := (valid_iff.1 hv).1
      have hop : opF (fun p q => p && q) xs ys top = capF (setF (fun p q => p && q) xs ys top) := by simp [opF, hv, hv']
      rw [hop]
      have CM := Lib.hid (fun W (H : Below w.heap.size w W) => meetSpans_any A n c xs B m d ys top W (h.below H) (h'.below H) ht.1 ht.2 (by omega) (by omega) (valid_F hv) (valid_F hv'))
      clear hop hv hv' h h'
      go_enter Try.func33, Try.ntmps33
      go_wp2_with fail
      refine (CA.out).mono ?_
      rintro e w1 ⟨rfl, hb1⟩
      go_wp2_with fail
      refine (CB.out w1 hb1).mono ?_
      rintro e w2 ⟨rfl, hb2⟩
      have H := chain hb1 hb2 hb1.size
      go_wp2_with fail
      refine (CM.out w2 H).mono ?_
      rintro e w3 ⟨A3, c3, rfl, own3, hb3⟩
      have O3 := Lib.hid own3
      clear own3
      go_wp2
      go_ret
      exact ⟨A3, c3, rfl, own_mono O3.out H.size, chain H hb3 H.size⟩

set_option maxHeartbeats 1000000 in
theorem iSpansLess_any (A : Option Addr) (n c : Nat) (xs : PS) (B : Option Addr) (m d : Nat) (ys : PS) (top : Int) (w : World) (h : Rd w A n c xs) (h' : Rd w B m d ys) :
    Calls Try.prog 39 #[.slice A n c, .slice B m d, .int .i64 top] w (Owns 30 (opF (fun p q => p && !q) xs ys top) w) := by
  have CA := Lib.hid (iSpansValid_any A n c xs top w h)
  cases hv : valid xs top with
  | false =>
    rw [hv] at CA
    have hop : opF (fun p q => p && !q) xs ys top = [] := by simp [opF, hv]
    rw [hop]
    clear hop hv h h'
    go_enter Try.func39, Try.ntmps39
    go_wp2_with fail
    refine (CA.out).mono ?_
    rintro e w1 ⟨rfl, hb1⟩
    go_wp2
    go_ret
    exact owns_nil hb1
  | true =>
    rw [hv] at CA
    have CB := Lib.hid (fun W (H : Below w.heap.size w W) => iSpansValid_any B m d ys top W (h'.below H))
    cases hv' : valid ys top with
    | false =>
      rw [hv'] at CB
      have hop : opF (fun p q => p && !q) xs ys top = [] := by simp [opF, hv']
      rw [hop]
      clear hop hv hv' h h'
      go_enter Try.func39, Try.ntmps39
      go_wp2_with fail
      refine (CA.out).mono ?_
      rintro e w1 ⟨rfl, hb1⟩
      go_wp2_with fail
      refine (CB.out w1 hb1).mono ?_
      rintro e w2 ⟨rfl, hb2⟩
      have H := chain hb1 hb2 hb1.size
      go_wp2
      go_ret
      exact owns_nil H
    | true =>
      rw [hv'] at CB
      have hn : n ≤ 40 := by have := (valid_iff.1 hv).2.1; have := h.len; omega
      have hm : m ≤ 40 := by have := (valid_iff.1 hv').2.1; have := h'.len; omega
      have ht := (valid_iff.1 hv).1
      have hop : opF (fun p q => p && !q) xs ys top = capF (setF (fun p q => p && !q) xs ys top) := by simp [opF, hv, hv']
      rw [hop]
      have CM := Lib.hid (fun W (H : Below w.heap.size w W) => lessSpans_any A n c xs B m d ys top W (h.below H) (h'.below H) ht.1 ht.2 (by omega) (by omega) (valid_F hv) (valid_F hv'))
      clear hop hv hv' h h'
      go_enter Try.func39, Try.ntmps39
      go_wp2_with fail
      refine (CA.out).mono ?_
      rintro e w1 ⟨rfl, hb1⟩
      go_wp2_with fail
      refine (CB.out w1 hb1).mono ?_
      rintro e w2 ⟨rfl, hb2⟩
      have H := chain hb1 hb2 hb1.size
      go_wp2_with fail
      refine (CM.out w2 H).mono ?_
      rintro e w3 ⟨A3, c3, rfl, own3, hb3⟩
      have O3 := Lib.hid own3
      clear own3
      go_wp2
      go_ret
      exact ⟨A3, c3, rfl, own_mono O3.out H.size, chain H hb3 H.size⟩

theorem other_set {xs : PS} {top : Int} (ht : 0 ≤ top) (hx : validF (-2) top xs = true) : setF (fun p q => p && !q) [(0, top)] xs top = otherF top 0 xs := by
  rw [otherF_eq ht hx]
  refine canon_congr fun k h0 h1 => ?_
  have : inB k (0, top) = true := inB_iff.2 ⟨h0, h1⟩
  simp [memB_cons, this]

set_option maxHeartbeats 1000000 in
theorem iSpansOther_any (A : Option Addr) (n c : Nat) (xs : PS) (top : Int) (w : World) (h : Rd w A n c xs) :
    Calls Try.prog 25 #[.slice A n c, .int .i64 top] w (Owns 30 (otherV xs top) w) := by
  unfold otherV
  have CA := Lib.hid (iSpansValid_any A n c xs top w h)
  cases hv : valid xs top with
  | false =>
    rw [hv] at CA
    rw [if_neg (by simp)]
    clear hv h
    go_enter Try.func25, Try.ntmps25
    go_wp2_with fail
    refine (CA.out).mono ?_
    rintro e w1 ⟨rfl, hb1⟩
    go_wp2
    go_ret
    exact owns_nil hb1
  | true =>
    rw [hv] at CA
    rw [if_pos rfl]
    have hn : n ≤ 40 := by have := (valid_iff.1 hv).2.1; have := h.len; omega
    have ht := (valid_iff.1 hv).1
    have hos := other_set ht.1 (valid_F hv)
    have CM := Lib.hid (fun W (H : Below w.heap.size w W) (o : Obj) (ho : o = .cells #[.int .i64 0, .int .i64 top] 30) => by
      have own0 := World.ownsRow_lit (e := 30) (size := 2) W #[.int .i64 0, .int .i64 top] 1 (Nat.le_refl _) (by unfold maxLen; omega) rfl
      have := lessSpans_any (some ⟨W.heap.size, 0, none⟩) 1 1 [(0, top)] A n c xs top (W.alloc (.cells #[.int .i64 0, .int .i64 top] 30)) (own_rd own0) ((h.below H).alloc _) ht.1 ht.2 (by omega) (by omega) (by simp [validF]; omega) (valid_F hv)
      rw [hos] at this
      subst ho
      exact this)
    clear hv h hos
    go_enter Try.func25, Try.ntmps25
    go_wp2_with fail
    refine (CA.out).mono ?_
    rintro e w1 ⟨rfl, hb1⟩
    go_wp2_with fail
    refine (CM.out w1 hb1 _ rfl).mono ?_
    rintro e w3 ⟨A3, c3, rfl, own3, hb3⟩
    have O3 := Lib.hid own3
    clear own3
    have H := hb1.alloc hb1.size (.cells #[.int .i64 0, .int .i64 top] 30)
    go_wp2
    go_ret
    exact ⟨A3, c3, rfl, own_mono O3.out H.size, chain H hb3 H.size⟩

set_option maxHeartbeats 1000000 in
theorem sSpansWithin_any (A : Option Addr) (n c : Nat) (xs : PS) (B : Option Addr) (m d : Nat) (ys : PS) (top : Int) (w : World) (h : Rd w A n c xs) (h' : Rd w B m d ys) :
    Calls Try.prog 37 #[.slice A n c, .slice B m d, .int .i64 top] w fun e w' => e = .returned (.bool (withinV xs ys top)) ∧ Below w.heap.size w w' := by
  have CA := Lib.hid (sSpansValid_any A n c xs top w h)
  cases hv : valid xs top with
  | false =>
    rw [hv] at CA
    have hop : withinV xs ys top = false := by simp [withinV, hv]
    rw [hop]
    clear hop hv h h'
    go_enter Try.func37, Try.ntmps37
    go_wp2_with fail
    refine (CA.out).mono ?_
    rintro e w1 ⟨rfl, hb1⟩
    go_wp2
    go_ret
    exact ⟨rfl, hb1⟩
  | true =>
    rw [hv] at CA
    have CB := Lib.hid (fun W (H : Below w.heap.size w W) => sSpansValid_any B m d ys top W (h'.below H))
    cases hv' : valid ys top with
    | false =>
      rw [hv'] at CB
      have hop : withinV xs ys top = false := by simp [withinV, hv']
      rw [hop]
      clear hop hv hv' h h'
      go_enter Try.func37, Try.ntmps37
      go_wp2_with fail
      refine (CA.out).mono ?_
      rintro e w1 ⟨rfl, hb1⟩
      go_wp2_with fail
      refine (CB.out w1 hb1).mono ?_
      rintro e w2 ⟨rfl, hb2⟩
      have H := chain hb1 hb2 hb1.size
      go_wp2
      go_ret
      exact ⟨rfl, H⟩
    | true =>
      rw [hv'] at CB
      have hn : n ≤ 40 := by have := (valid_iff.1 hv).2.1; have := h.len; omega
      have hm : m ≤ 40 := by have := (valid_iff.1 hv').2.1; have := h'.len; omega
      have ht := (valid_iff.1 hv).1
      have hop : withinV xs ys top = decide ((meetF xs (otherF top 0 ys)).length = 0) := by rw [meet_other ht.1 (valid_F hv) (valid_F hv')]; simp [withinV, hv, hv']
      rw [hop]
      have hol : (otherF top 0 ys).length ≤ 41 := by have := otherF_length top ys 0; have := h'.len; omega
      have CO := Lib.hid (fun W (H : Below w.heap.size w W) => l2Other_any B m d ys top W (h'.below H) (by omega) ht.1 ht.2 (valid_F hv'))
      have CM := Lib.hid (fun W (H : Below w.heap.size w W) B m d (h' : Rd W B m d (otherF top 0 ys)) (hm : m ≤ 41) => l2Meet_any A n c xs B m d _ W (h.below H) h' (by omega) (by omega))
      clear hop hv hv' h h'
      generalize meetF xs (otherF top 0 ys) = S at CM ⊢
      go_enter Try.func37, Try.ntmps37
      go_wp2_with fail
      refine (CA.out).mono ?_
      rintro e w1 ⟨rfl, hb1⟩
      go_wp2_with fail
      refine (CB.out w1 hb1).mono ?_
      rintro e w2 ⟨rfl, hb2⟩
      have H := chain hb1 hb2 hb1.size
      go_wp2_with fail
      refine (CO.out w2 H).mono ?_
      rintro e v3 ⟨B3, d3, rfl, own2, hb3⟩
      have H2 := chain H hb3 H.size
      go_wp2_with fail
      refine (CM.out v3 H2 _ _ _ (own_rd own2) hol).mono ?_
      rintro e w3 ⟨A3, c3, rfl, own3, hb3'⟩
      have H3 := chain H2 hb3' H2.size
      clear own3 own2
      go_wp2
      go_ret
      exact ⟨ret_bool (len_zero S), H3⟩
end Go.Proofs.Ytbonkolgbcmaoaa
