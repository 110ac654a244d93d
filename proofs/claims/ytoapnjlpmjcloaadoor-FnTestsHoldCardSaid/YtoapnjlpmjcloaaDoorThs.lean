/-
  WALKS: spec.TestsHold, impl.allHold, impl.TestsHold: 'thsB'.
-/
import Derived.Test.YtoapnjlpmjcloaaDoorTests
import Derived.Test.YtoapnjlpmjcloaaDoorTholdS
import Derived.Test.YtoapnjlpmjcloaaDoorBlk
namespace Go.Proofs.YtoapnjlpmjcloaaDoor
open Go.ChangeShapes Go.WideShapes Go.ChangeAt Go.RowKit Go.Sort Pf

theorem ths_no1 {xs : TS} {f t p r : Int} (h : tvB xs = false) : thsB xs f t p r = false := by simp [thsB, h]
theorem ths_no2 {xs : TS} {f t p r : Int} (h : pkB f t p r = false) : thsB xs f t p r = false := by simp [thsB, h]
theorem tv_each {xs : TS} (h : tvB xs = true) {k : Nat} (hk : k < xs.length) : tOk xs[k] = true := by
  simp only [tvB, Bool.and_eq_true, decide_eq_true_eq, List.all_eq_true] at h
  exact h.2 _ (List.getElem_mem hk)
theorem tHolds_eq {f t p r : Int} {x : Tst} (h : tOk x = true) (hp : pkB f t p r = true) : tHolds f t p r x = (inR x.lo (nthF f t p r x.fl) x.hi != x.nt) := th_yes h hp

set_option maxHeartbeats 1000000 in
theorem sTestsHold_any (A : Option Addr) (n c : Nat) (xs : TS) (f t p r : Int) (w : World) (h : Rt w A n c xs) :
    Calls Tryd.prog 35 #[.slice A n c, .agg #[.int .i64 f, .int .i64 t, .int .i64 p, .int .i64 r]] w fun e w' => e = .returned (.bool (thsB xs f t p r)) ∧ Below w.heap.size w w' := by
  obtain rfl : xs.length = n := h.len
  have hmax : xs.length ≤ maxLen := Nat.le_trans h.2.1 h.2.2.1
  unfold maxLen at hmax
  have HB0 := below_one w (.cells #[.int .i64 f, .int .i64 t, .int .i64 p, .int .i64 r] 24)
  have HR := Lib.hid (h.below HB0)
  have K0 := Lib.hid (Blk.new w #[.int .i64 f, .int .i64 t, .int .i64 p, .int .i64 r] 24)
  have HB := Lib.hid HB0
  have hsz : w.heap.size ≤ (w.alloc (.cells #[.int .i64 f, .int .i64 t, .int .i64 p, .int .i64 r] 24)).heap.size := HB0.size
  clear h HB0
  go_enter Tryd.func35, Tryd.ntmps35
  go_wp2
  generalize w.alloc (.cells #[.int .i64 f, .int .i64 t, .int .i64 p, .int .i64 r] 24) = W at *
  go_loopw [5] (fun i wr => ∃ k : Nat, k ≤ xs.length ∧ i = .int .i64 k ∧ (xs.take k).all (tHolds f t p r) = true ∧ Below W.heap.size W wr) (fun i _ => xs.length - (intOf i).toNat)
  case atStart => exact ⟨0, Nat.zero_le _, rfl, by simp, Below.refl _ _⟩
  case round =>
    obtain ⟨k, hk, rfl, ha, hb⟩ := hrel
    by_cases hkn : k < xs.length
    · obtain ⟨b, o, hA, hbl, hc0⟩ := (HR.out.below hb).at_ hkn
      subst hA
      obtain ⟨c1, c2, c3, c4⟩ := hc0 hkn
      have HN := Lib.hid (fun (e : tHolds f t p r xs[k] = true) => all_next hkn ha e)
      have HF := Lib.hid (fun (e : tHolds f t p r xs[k] = false) => ths_one (f := f) (t := t) (p := p) (r := r) k hkn e)
      obtain ⟨q, hq⟩ : ∃ q, tHolds f t p r xs[k] = q := ⟨_, rfl⟩
      generalize xs[k] = x at c1 c2 c3 c4 HN HF hq
      obtain ⟨fl, lo, hi, nt⟩ := x
      simp only at c1 c2 c3 c4
      have cS := Lib.hid (fun d os => Calls.regrown_of (sTestHolds_any fl lo hi nt f t p r (grow (redrawn wr d) os)))
      have hq' : thB fl lo hi nt f t p r = q := hq
      rw [hq'] at cS
      have hki : (k : Int) < xs.length := by omega
      have hk0 : (0 : Int) ≤ k := by omega
      have hs := hb.size
      have KB := K0.out.below hb
      have k1 := cell_regrown c1
      have k2 := cell_regrown c2
      have k3 := cell_regrown c3
      have k4 := cell_regrown c4
      have k5 := cell_regrown (KB.c 0 rfl)
      have k6 := cell_regrown (KB.c 1 rfl)
      have k7 := cell_regrown (KB.c 2 rfl)
      have k8 := cell_regrown (KB.c 3 rfl)
      clear ha hc0 KB hq' c1 c2 c3 c4
      go_wp2_with fail
      refine wp_region_quiet_below (by kernel_rfl) (by kernel_rfl) ?_
      repeat (go_big_quiet_step ((go_at_call 43; exact cS.out _ _)))
      refine wpQuiet_nil ?_
      intro _ hw'
      obtain ⟨⟨dq, osq⟩, hw''⟩ := hw'
      subst hw''
      have H1 := Lib.hid (chain hb (below_regrown wr dq osq) hs)
      clear k1 k2 k3 k4 k5 k6 k7 k8 cS hb
      dsimp only
      generalize grow (redrawn wr dq) osq = V at *
      cases q with
      | false =>
        have HV := Lib.hid (HF.out hq)
        clear hq
        go_wp2
        go_ret
        exact ⟨ret_bool HV.out.symm, chain HB.out H1.out hsz⟩
      | true =>
        have HV := Lib.hid (HN.out hq)
        clear hq
        go_wp2
        go_roundw
        case rel => exact ⟨k + 1, by omega, by go_num, HV.out, H1.out⟩
        case measure => simp [intOf]; omega
    · obtain rfl : k = xs.length := by omega
      rw [List.take_of_length_le (Nat.le_refl _)] at ha
      have HT := HR.out.below hb
      have K1 := Lib.hid (K0.out.below hb)
      have HE := ths_all ha
      obtain ⟨u, hu⟩ : ∃ u, tvB xs = u := ⟨_, rfl⟩
      obtain ⟨v, hv⟩ : ∃ v, pkB f t p r = v := ⟨_, rfl⟩
      rw [hu, hv] at HE
      have HE := Lib.hid HE
      have CV := sTestsValid_any _ _ _ xs wr HT
      rw [hu] at CV
      have CV := Lib.hid CV
      have CP := fun W => sPacketValid_any f t p r W
      rw [hv] at CP
      have CP := Lib.hid CP
      have hs := hb.size
      clear ha hu hv HT
      go_wp2_with fail
      refine (CV.out).mono ?_
      rintro e w1 ⟨rfl, hb1⟩
      have H1 := Lib.hid (chain hb hb1 hs)
      have K2 := K1.out.below hb1
      have c1 := K2.c 0 rfl
      have c2 := K2.c 1 rfl
      have c3 := K2.c 2 rfl
      have c4 := K2.c 3 rfl
      clear hb1 K1 K2 hb
      cases u with
      | false =>
        go_wp2
        go_ret
        exact ⟨ret_bool HE.out.symm, chain HB.out H1.out hsz⟩
      | true =>
        go_wp2_with fail
        refine (CP.out _).mono ?_
        rintro e w2 ⟨rfl, hb2⟩
        have H2 := Lib.hid (chain H1.out hb2 H1.out.size)
        clear hb2
        go_wp2
        go_ret
        exact ⟨ret_bool (HE.out.trans (Bool.true_and _)).symm, chain HB.out H2.out hsz⟩

set_option maxHeartbeats 1000000 in
theorem allHold_any (A : Option Addr) (n c : Nat) (xs : TS) (f t p r : Int) (w : World) (h : Rt w A n c xs) (hv : tvB xs = true) (hp : pkB f t p r = true) :
    Calls Tryd.prog 70 #[.slice A n c, .agg #[.int .i64 f, .int .i64 t, .int .i64 p, .int .i64 r]] w fun e w' => e = .returned (.bool (thsB xs f t p r)) ∧ Below w.heap.size w w' := by
  obtain rfl : xs.length = n := h.len
  have hmax : xs.length ≤ maxLen := Nat.le_trans h.2.1 h.2.2.1
  unfold maxLen at hmax
  have HB0 := below_one w (.cells #[.int .i64 f, .int .i64 t, .int .i64 p, .int .i64 r] 24)
  have HR := Lib.hid (h.below HB0)
  have K0 := Lib.hid (Blk.new w #[.int .i64 f, .int .i64 t, .int .i64 p, .int .i64 r] 24)
  have HB := Lib.hid HB0
  have hsz : w.heap.size ≤ (w.alloc (.cells #[.int .i64 f, .int .i64 t, .int .i64 p, .int .i64 r] 24)).heap.size := HB0.size
  have HVV := Lib.hid hv
  have HPP := Lib.hid hp
  clear h HB0 hv hp
  go_enter Tryd.func70, Tryd.ntmps70
  go_wp2
  generalize w.alloc (.cells #[.int .i64 f, .int .i64 t, .int .i64 p, .int .i64 r] 24) = W at *
  go_loopw [9] (fun i wr => ∃ k : Nat, k ≤ xs.length ∧ i = .int .i64 k ∧ (xs.take k).all (tHolds f t p r) = true ∧ Below W.heap.size W wr) (fun i _ => xs.length - (intOf i).toNat)
  case atStart => exact ⟨0, Nat.zero_le _, rfl, by simp, Below.refl _ _⟩
  case round =>
    obtain ⟨k, hk, rfl, ha, hb⟩ := hrel
    by_cases hkn : k < xs.length
    · obtain ⟨b, o, hA, hbl, hc0⟩ := (HR.out.below hb).at_ hkn
      subst hA
      obtain ⟨c1, c2, c3, c4⟩ := hc0 hkn
      have HN := Lib.hid (fun (e : tHolds f t p r xs[k] = true) => all_next hkn ha e)
      have HF := Lib.hid (fun (e : tHolds f t p r xs[k] = false) => ths_one (f := f) (t := t) (p := p) (r := r) k hkn e)
      have hok := tv_each HVV.out hkn
      have hq0 := tHolds_eq (f := f) (t := t) (p := p) (r := r) hok HPP.out
      obtain ⟨q, hq⟩ : ∃ q, tHolds f t p r xs[k] = q := ⟨_, rfl⟩
      generalize xs[k] = x at c1 c2 c3 c4 HN HF hq hok hq0
      obtain ⟨fl, lo, hi, nt⟩ := x
      simp only at c1 c2 c3 c4 hq0
      have hf3 : 0 ≤ fl ∧ fl ≤ 3 := (tsB_iff.1 hok).1
      have CH := fun W => holds_any fl lo hi nt f t p r W hf3.1 (by omega)
      rw [← hq0, hq] at CH
      have CH := Lib.hid CH
      have hki : (k : Int) < xs.length := by omega
      have hk0 : (0 : Int) ≤ k := by omega
      have hs := hb.size
      have A1 := below_one wr (.cells #[.int .i64 fl, .int .i64 lo, .int .i64 hi, .bool nt] 32)
      have HB2 := Lib.hid (chain hb A1 hs)
      have KB := K0.out.below hb
      have k5 := keepCell A1 (KB.c 0 rfl)
      have k6 := keepCell A1 (KB.c 1 rfl)
      have k7 := keepCell A1 (KB.c 2 rfl)
      have k8 := keepCell A1 (KB.c 3 rfl)
      clear ha hc0 KB hok hq0 hf3 A1 hb
      go_wp2_with fail
      refine (CH.out _).mono ?_
      rintro e w1 ⟨rfl, hb1⟩
      have H1 := Lib.hid (chain HB2.out hb1 HB2.out.size)
      clear hb1 c1 c2 c3 c4 k5 k6 k7 k8 HB2
      cases q with
      | false =>
        have HV := Lib.hid (HF.out hq)
        clear hq
        go_wp2
        go_ret
        exact ⟨ret_bool HV.out.symm, chain HB.out H1.out hsz⟩
      | true =>
        have HV := Lib.hid (HN.out hq)
        clear hq
        go_wp2
        go_roundw
        case rel => exact ⟨k + 1, by omega, by go_num, HV.out, H1.out⟩
        case measure => simp [intOf]; omega
    · obtain rfl : k = xs.length := by omega
      rw [List.take_of_length_le (Nat.le_refl _)] at ha
      have HE := Lib.hid (show thsB xs f t p r = true by rw [ths_all ha, HVV.out, HPP.out]; rfl)
      clear ha
      go_wp2
      go_ret
      exact ⟨ret_bool HE.out.symm, chain HB.out hb hsz⟩

set_option maxHeartbeats 1000000 in
theorem iTestsHold_any (A : Option Addr) (n c : Nat) (xs : TS) (f t p r : Int) (w : World) (h : Rt w A n c xs) (hT : Tab w) :
    Calls Tryd.prog 38 #[.slice A n c, .agg #[.int .i64 f, .int .i64 t, .int .i64 p, .int .i64 r]] w fun e w' => e = .returned (.bool (thsB xs f t p r)) ∧ Below w.heap.size w w' := by
  obtain rfl : xs.length = n := h.len
  have HB0 := below_one w (.cells #[.int .i64 f, .int .i64 t, .int .i64 p, .int .i64 r] 24)
  have HR := h.below HB0
  have K0 := Lib.hid (Blk.new w #[.int .i64 f, .int .i64 t, .int .i64 p, .int .i64 r] 24)
  obtain ⟨u, hu⟩ : ∃ u, tvB xs = u := ⟨_, rfl⟩
  obtain ⟨v, hv⟩ : ∃ v, pkB f t p r = v := ⟨_, rfl⟩
  have CV := iTestsValid_any _ _ _ xs _ HR (hT.below HB0)
  rw [hu] at CV
  have CV := Lib.hid CV
  have CP := fun W (hW : Below w.heap.size w W) => iPacketValid_any f t p r W (hT.below hW)
  rw [hv] at CP
  have CP := Lib.hid CP
  have CA := Lib.hid (fun W (hW : Below w.heap.size w W) => allHold_any A xs.length c xs f t p r W (h.below hW))
  have HB := Lib.hid HB0
  clear h hT HB0 HR
  go_enter Tryd.func38, Tryd.ntmps38
  go_wp2_with fail
  refine (CV.out).mono ?_
  rintro e w1 ⟨rfl, hb1⟩
  have H1 := Lib.hid (chain HB.out hb1 HB.out.size)
  have K1 := Lib.hid (K0.out.below hb1)
  clear hb1 K0 CV
  cases u with
  | false =>
    have HE := Lib.hid (ths_no1 (f := f) (t := t) (p := p) (r := r) hu)
    clear hu hv
    go_wp2
    go_ret
    exact ⟨ret_bool HE.out.symm, H1.out⟩
  | true =>
    have c1 := K1.out.c 0 rfl
    have c2 := K1.out.c 1 rfl
    have c3 := K1.out.c 2 rfl
    have c4 := K1.out.c 3 rfl
    go_wp2_with fail
    refine (CP.out _ H1.out).mono ?_
    rintro e w2 ⟨rfl, hb2⟩
    have H2 := Lib.hid (chain H1.out hb2 H1.out.size)
    have K2 := Lib.hid (K1.out.below hb2)
    clear hb2 K1 CP c1 c2 c3 c4
    cases v with
    | false =>
      have HE := Lib.hid (ths_no2 (xs := xs) hv)
      clear hu hv
      go_wp2
      go_ret
      exact ⟨ret_bool HE.out.symm, H2.out⟩
    | true =>
      have CA := Lib.hid (fun W (hW : Below w.heap.size w W) => CA.out W hW hu hv)
      have c1 := K2.out.c 0 rfl
      have c2 := K2.out.c 1 rfl
      have c3 := K2.out.c 2 rfl
      have c4 := K2.out.c 3 rfl
      clear hu hv
      go_wp2_with fail
      refine (CA.out _ H2.out).mono ?_
      rintro e w3 ⟨rfl, hb3⟩
      have H3 := Lib.hid (chain H2.out hb3 H2.out.size)
      clear hb3 c1 c2 c3 c4
      go_wp2
      go_ret
      exact ⟨rfl, H3.out⟩
end Go.Proofs.YtoapnjlpmjcloaaDoor
