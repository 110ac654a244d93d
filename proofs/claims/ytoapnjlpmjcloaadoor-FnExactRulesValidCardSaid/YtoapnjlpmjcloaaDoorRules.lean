/-
  WALKS: spec.RulesValid, impl.RulesValid: 'rvsB'.
-/
import Derived.Test.YtoapnjlpmjcloaaDoorRuleV
import Derived.Test.YtoapnjlpmjcloaaDoorRulesR
import Derived.Deep.LoopGhost
namespace Go.Proofs.YtoapnjlpmjcloaaDoor
open Go.ChangeShapes Go.WideShapes Go.ChangeAt Go.RowKit Go.Sort Pf
set_option maxRecDepth 20000

def Rul.ok (r : Rul) : Bool := rvB r.xs r.a r.ch
def rvsB (rs : List Rul) : Bool := decide (rs.length ≤ 8) && rs.all Rul.ok
theorem rvs_key {rs ts : List Rul} (h : rs.map Rul.key = ts.map Rul.key) : rvsB rs = rvsB ts := by
  have h1 : rs.length = ts.length := by have := congrArg List.length h; simpa using this
  have h2 : ∀ ys : List Rul, ys.all Rul.ok = (ys.map Rul.key).all (fun k => rvB k.1 k.2.1 k.2.2) := by
    intro ys; rw [List.all_map]; rfl
  unfold rvsB
  rw [h1, h2 rs, h2 ts, h]
theorem rvs_one {rs : List Rul} (k : Nat) (hk : k < rs.length) (h : Rul.ok rs[k] = false) : rvsB rs = false := by
  have : rs.all Rul.ok = false := by
    rw [List.all_eq_false]; exact ⟨_, List.getElem_mem hk, by simp [h]⟩
  simp [rvsB, this]
theorem rall_next {q : Rul → Bool} {xs : List Rul} {k : Nat} (hk : k < xs.length) (h : (xs.take k).all q = true) (hq : q xs[k] = true) : (xs.take (k + 1)).all q = true := by
  rw [List.take_succ_eq_append_getElem hk, List.all_append, h]; simp [hq]
theorem rvs_all {rs : List Rul} (h : rs.all Rul.ok = true) : rvsB rs = decide (rs.length ≤ 8) := by simp [rvsB, h]

set_option maxHeartbeats 1000000 in
theorem sRulesValid_any (A : Option Addr) (n c : Nat) (rs : List Rul) (w : World) (h : Rr w A n c rs) :
    Calls Tryd.prog 46 #[.slice A n c] w fun e w' => e = .returned (.bool (rvsB rs)) ∧ Below w.heap.size w w' := by
  obtain rfl : rs.length = n := h.len
  have hmax : rs.length ≤ maxLen := Nat.le_trans h.2.1 h.2.2.1
  unfold maxLen at hmax
  have HR := Lib.hid h
  clear h
  go_enter Tryd.func46, Tryd.ntmps46
  go_wp2
  go_loopg [3] rs.length (fun g i wr => ∃ k : Nat, g + k = rs.length ∧ i = .int .i64 k ∧ (rs.take k).all Rul.ok = true ∧ Below w.heap.size w wr)
  case atStart => exact ⟨0, by omega, rfl, by simp, Below.refl _ _⟩
  case round =>
    obtain ⟨k, hg, rfl, ha, hb⟩ := hrel
    have HG := Lib.hid hg
    have hk : k ≤ rs.length := by omega
    clear hg
    by_cases hkn : k < rs.length
    · obtain ⟨b, o, hA, hbl, hc0⟩ := (HR.out.below hb).at_ hkn
      subst hA
      obtain ⟨⟨c1, c2, c3⟩, hrt⟩ := hc0 hkn
      have HN := Lib.hid (fun (e : Rul.ok rs[k] = true) => rall_next hkn ha e)
      have HF := Lib.hid (fun (e : Rul.ok rs[k] = false) => rvs_one k hkn e)
      generalize rs[k] = x at c1 c2 c3 hrt HN HF
      obtain ⟨rA, rn, rc, rxs, ra, rch⟩ := x
      simp only at c1 c2 c3 hrt
      have hki : (k : Int) < rs.length := by omega
      have hk0 : (0 : Int) ≤ k := by omega
      have hs := hb.size
      have HRT := Lib.hid hrt
      clear ha hc0 hrt
      go_wp2_with fail
      refine (sRuleValid_any rA rn rc rxs ra rch _ HRT.out).mono ?_
      rintro e w1 ⟨rfl, hb1⟩
      have H1 := Lib.hid (chain hb hb1 hs)
      clear hb1 c1 c2 c3 hb HRT
      cases hq : rvB rxs ra rch with
      | false =>
        have HV := Lib.hid (HF.out hq)
        clear hq
        go_wp2
        go_ret
        exact ⟨ret_bool HV.out.symm, H1.out⟩
      | true =>
        have HV := Lib.hid (HN.out hq)
        clear hq
        go_wp2
        go_roundg (rs.length - (k + 1))
        case measure => have := HG.out; omega
        case rel => exact ⟨k + 1, by omega, by go_num, HV.out, H1.out⟩
    · obtain rfl : k = rs.length := by omega
      rw [List.take_of_length_le (Nat.le_refl _)] at ha
      have HV := Lib.hid (show decide ((rs.length : Int) ≤ 8) = rvsB rs by rw [rvs_all ha, decide_eq_decide]; omega)
      clear ha
      go_wp2
      go_ret
      exact ⟨ret_bool HV.out, hb⟩

set_option maxHeartbeats 1000000 in
theorem iRulesValid_any (A : Option Addr) (n c : Nat) (rs : List Rul) (w : World) (h : Rr w A n c rs) (hT : Tab w) :
    Calls Tryd.prog 48 #[.slice A n c] w fun e w' => e = .returned (.bool (rvsB rs)) ∧ Below w.heap.size w w' := by
  obtain rfl : rs.length = n := h.len
  have HR := Lib.hid h
  have CT := Lib.hid (fun W (hW : Below w.heap.size w W) => hT.below hW)
  clear h hT
  by_cases hl : rs.length ≤ 8
  · have hli : decide ((8 : Int) < ((rs.length : Nat) : Int)) = false := by simp; omega
    go_enter Tryd.func48, Tryd.ntmps48
    go_wp2
    go_loopw [10] (fun i wr => ∃ k : Nat, k ≤ rs.length ∧ i = .int .i64 k ∧ (rs.take k).all Rul.ok = true ∧ Below w.heap.size w wr) (fun i _ => rs.length - (intOf i).toNat)
    case atStart => exact ⟨0, Nat.zero_le _, rfl, by simp, Below.refl _ _⟩
    case round =>
      obtain ⟨k, hk, rfl, ha, hb⟩ := hrel
      by_cases hkn : k < rs.length
      · obtain ⟨b, o, hA, hbl, hc0⟩ := (HR.out.below hb).at_ hkn
        subst hA
        obtain ⟨⟨c1, c2, c3⟩, hrt⟩ := hc0 hkn
        have HN := Lib.hid (fun (e : Rul.ok rs[k] = true) => rall_next hkn ha e)
        have HF := Lib.hid (fun (e : Rul.ok rs[k] = false) => rvs_one k hkn e)
        generalize rs[k] = x at c1 c2 c3 hrt HN HF
        obtain ⟨rA, rn, rc, rxs, ra, rch⟩ := x
        simp only at c1 c2 c3 hrt
        have hki : (k : Int) < rs.length := by omega
        have hk0 : (0 : Int) ≤ k := by omega
        have hs := hb.size
        have HB := Lib.hid (hb.alloc hs (.cells #[.slice rA rn rc, .int .i64 ra, .int .i64 rch] 48))
        have HRT := Lib.hid (hrt.alloc (.cells #[.slice rA rn rc, .int .i64 ra, .int .i64 rch] 48))
        clear ha hc0 hb hrt
        go_wp2_with fail
        refine (iRuleValid_any rA rn rc rxs ra rch _ HRT.out (CT.out _ HB.out)).mono ?_
        rintro e w1 ⟨rfl, hb1⟩
        have H1 := Lib.hid (chain HB.out hb1 (by simp; omega))
        clear hb1 c1 c2 c3 HRT
        cases hq : rvB rxs ra rch with
        | false =>
          have HV := Lib.hid (HF.out hq)
          clear hq
          go_wp2
          go_ret
          exact ⟨ret_bool HV.out.symm, H1.out⟩
        | true =>
          have HV := Lib.hid (HN.out hq)
          clear hq
          go_wp2
          go_roundw
          case rel => exact ⟨k + 1, by omega, by go_num, HV.out, H1.out⟩
          case measure => simp [intOf]; omega
      · obtain rfl : k = rs.length := by omega
        rw [List.take_of_length_le (Nat.le_refl _)] at ha
        have HV := Lib.hid (show rvsB rs = true by rw [rvs_all ha]; simpa using hl)
        clear ha
        go_wp2
        go_ret
        exact ⟨ret_bool HV.out.symm, hb⟩
  · have hli : decide ((8 : Int) < ((rs.length : Nat) : Int)) = true := by simp; omega
    have HV := Lib.hid (show rvsB rs = false by simp [rvsB, hl])
    clear hl
    go_enter Tryd.func48, Tryd.ntmps48
    go_wp2
    go_ret
    exact ⟨ret_bool HV.out.symm, Below.refl _ _⟩
end Go.Proofs.YtoapnjlpmjcloaaDoor
