/-
  WALK: laws.szRuleS: what is left is below zero, or there are at most 1048576 rules, each of at most 1048576 tests.
-/
import Derived.Test.YtoapnjlpmjcloaaDoorRulesR
import Derived.Test.YtoapnjlpmjcloaaDoorRuleX
namespace Go.Proofs.YtoapnjlpmjcloaaDoor
open Go.ChangeShapes Go.WideShapes Go.ChangeAt Go.RowKit Go.Sort Pf
set_option maxRecDepth 20000

set_option maxHeartbeats 400000 in
theorem szRule_left (A : Option Addr) (n c : Nat) (a ch left : Int) (h0 : 0 ≤ left) (h1 : left ≤ 1048576) (hn : n ≤ maxLen) (w : World) :
    Calls Tryd.prog 29 #[.agg #[.slice A n c, .int .i64 a, .int .i64 ch], .int .i64 left] w fun e w' => (∃ z, e = .returned (.int .i64 z) ∧ (z = -1 ∨ (0 ≤ z ∧ z ≤ left ∧ n ≤ 1048576))) ∧ Below w.heap.size w w' := by
  have CZ := Lib.hid (fun W => szTestS_any A n c left h0 h1 hn W)
  have H0 := Lib.hid (below_one w (.cells #[.slice A n c, .int .i64 a, .int .i64 ch] 44))
  obtain ⟨z, hz⟩ : ∃ z, szF left n = z := ⟨_, rfl⟩
  have hzz : z < 0 → z = -1 := by rw [← hz]; unfold szF; split <;> omega
  have hzq : ¬ z < 0 → 0 ≤ z ∧ z ≤ left ∧ n ≤ 1048576 := by rw [← hz]; unfold szF; split <;> omega
  have HZ := Lib.hid hzz
  have HQ := Lib.hid hzq
  rw [hz] at CZ
  clear hz hn hzz hzq
  go_enter Tryd.func29, Tryd.ntmps29
  go_wp2_with fail
  refine (CZ.out _).mono ?_
  rintro e w1 ⟨rfl, rfl⟩
  by_cases hz0 : z < 0
  · obtain rfl := HZ.out hz0
    go_wp2
    go_ret
    exact ⟨⟨_, rfl, .inl rfl⟩, H0.out⟩
  · have HR := Lib.hid (HQ.out (by omega))
    go_wp2
    go_ret
    exact ⟨⟨_, rfl, .inr HR.out⟩, H0.out⟩

theorem rall_take {q : Rul → Prop} {rs : List Rul} {k : Nat} (hk : k < rs.length) (h : ∀ r ∈ rs.take k, q r) (hq : q rs[k]) : ∀ r ∈ rs.take (k + 1), q r := by
  rw [List.take_succ_eq_append_getElem hk]
  intro r hr
  rcases List.mem_append.1 hr with h' | h'
  · exact h r h'
  · simp only [List.mem_singleton] at h'
    subst h'
    exact hq

set_option maxHeartbeats 1000000 in
theorem szRuleS_any (A : Option Addr) (n c : Nat) (rs : List Rul) (w : World) (h : Rr w A n c rs) :
    Calls Tryd.prog 45 #[.slice A n c, .int .i64 1048576] w fun e w' => (∃ z, e = .returned (.int .i64 z) ∧ (z = -1 ∨ (0 ≤ z ∧ n ≤ 1048576 ∧ ∀ r ∈ rs, r.n ≤ 1048576))) ∧ Below w.heap.size w w' := by
  obtain rfl : rs.length = n := h.len
  have hmax : rs.length ≤ maxLen := Nat.le_trans h.2.1 h.2.2.1
  unfold maxLen at hmax
  have HR := Lib.hid h
  clear h
  by_cases hs : (rs.length : Int) ≤ 1048576
  · have hz0 : (0 : Int) ≤ 1048576 - rs.length := by omega
    go_enter Tryd.func45, Tryd.ntmps45
    go_wp2
    go_loopw [1, 5] (fun l i wr => ∃ (k : Nat) (z : Int), k ≤ rs.length ∧ i = .int .i64 k ∧ l = .int .i64 z ∧ (0 ≤ z ∧ z ≤ 1048576) ∧ (∀ r ∈ rs.take k, r.n ≤ 1048576) ∧ Below w.heap.size w wr) (fun _ i _ => rs.length - (intOf i).toNat)
    case atStart => exact ⟨0, _, Nat.zero_le _, rfl, rfl, ⟨by omega, by omega⟩, by simp, Below.refl _ _⟩
    case round =>
      obtain ⟨k, z, hk, rfl, rfl, ⟨z0, z1⟩, ha, hb⟩ := hrel
      by_cases hkn : k < rs.length
      · obtain ⟨b, o, hA, hbl, hc0⟩ := (HR.out.below hb).at_ hkn
        subst hA
        obtain ⟨⟨c1, c2, c3⟩, hrt⟩ := hc0 hkn
        have HN := Lib.hid (fun (e : rs[k].n ≤ 1048576) => rall_take (q := fun r => r.n ≤ 1048576) hkn ha e)
        generalize rs[k] = x at c1 c2 c3 hrt HN
        obtain ⟨rA, rn, rc, rxs, ra, rch⟩ := x
        simp only at c1 c2 c3 hrt HN
        have hrm : rn ≤ maxLen := Nat.le_trans hrt.2.1 hrt.2.2.1
        have hki : (k : Int) < rs.length := by omega
        have hk0 : (0 : Int) ≤ k := by omega
        have hss := hb.size
        have CS := Lib.hid (fun W => szRule_left rA rn rc ra rch z z0 z1 hrm W)
        clear ha hc0 hrt hrm
        go_wp2_with fail
        refine (CS.out _).mono ?_
        rintro e w1 ⟨⟨y, rfl, hy⟩, hb1⟩
        have H1 := Lib.hid (chain hb hb1 hss)
        clear hb1 c1 c2 c3 hb CS
        rcases hy with rfl | ⟨hy0, hy1, hyn⟩
        · go_wp2
          go_ret
          exact ⟨⟨_, rfl, .inl rfl⟩, H1.out⟩
        · have HV := Lib.hid (HN.out hyn)
          have hyl : ¬ y < 0 := by omega
          have hyt : y ≤ 1048576 := by omega
          clear HN hyn hy1
          go_wp2
          go_roundw
          case rel => exact ⟨k + 1, y, by omega, by go_num, rfl, ⟨hy0, hyt⟩, HV.out, H1.out⟩
          case measure => simp [intOf]; omega
      · obtain rfl : k = rs.length := by omega
        rw [List.take_of_length_le (Nat.le_refl _)] at ha
        have HV := Lib.hid ha
        clear ha
        go_wp2
        go_ret
        exact ⟨⟨_, rfl, .inr ⟨z0, by omega, HV.out⟩⟩, hb⟩
  · have hz0 : (1048576 : Int) - rs.length < 0 := by omega
    go_enter Tryd.func45, Tryd.ntmps45
    go_wp2
    go_ret
    exact ⟨⟨_, rfl, .inl rfl⟩, Below.refl _ _⟩
end Go.Proofs.YtoapnjlpmjcloaaDoor
