/-
  WALK: laws.eqRuleS, at lists that say the same.
-/
import Derived.Test.YtoapnjlpmjcloaaDoorRulesR
import Derived.Test.YtoapnjlpmjcloaaDoorRuleX
namespace Go.Proofs.YtoapnjlpmjcloaaDoor
open Go.ChangeShapes Go.WideShapes Go.ChangeAt Go.RowKit Go.Sort Pf
set_option maxRecDepth 20000

theorem key_at {rs ts : List Rul} (h : rs.map Rul.key = ts.map Rul.key) {k : Nat} (h1 : k < rs.length) (h2 : k < ts.length) : rs[k].xs = ts[k].xs ∧ rs[k].a = ts[k].a ∧ rs[k].ch = ts[k].ch := by
  have e : (rs.map Rul.key)[k]'(by simpa using h1) = (ts.map Rul.key)[k]'(by simpa using h2) := by simp only [h]
  simp only [List.getElem_map, Rul.key, Prod.mk.injEq] at e
  exact e

set_option maxHeartbeats 1000000 in
theorem eqRuleS_same (A B : Option Addr) (n c d : Nat) (rs ts : List Rul) (w : World) (h : Rr w A n c rs) (h' : Rr w B n d ts) (hk : rs.map Rul.key = ts.map Rul.key) :
    Calls Tryd.prog 49 #[.slice A n c, .slice B n d] w fun e w' => e = .returned (.bool true) ∧ Below w.heap.size w w' := by
  have hl1 := Lib.hid h.len
  have hl2 := Lib.hid h'.len
  have hmax : n ≤ maxLen := Nat.le_trans h.2.1 h.2.2.1
  unfold maxLen at hmax
  have HK := Lib.hid hk
  clear hk
  go_enter Tryd.func49, Tryd.ntmps49
  go_wp2
  go_loopw [5] (fun i wr => ∃ k : Nat, k ≤ n ∧ i = .int .i64 k ∧ Below w.heap.size w wr) (fun i _ => n - (intOf i).toNat)
  case atStart => exact ⟨0, Nat.zero_le _, rfl, Below.refl _ _⟩
  case round =>
    obtain ⟨k, hk, rfl, hb⟩ := hrel
    by_cases hkn : k < n
    · obtain ⟨b, o, rfl, hbl, hc0⟩ := (h.below hb).at_ hkn
      obtain ⟨b', o', rfl, hbl', hc0'⟩ := (h'.below hb).at_ hkn
      have hlx : k < rs.length := by have := hl1.out; omega
      have hly : k < ts.length := by have := hl2.out; omega
      obtain ⟨⟨c1, c2, c3⟩, r1⟩ := hc0 hlx
      obtain ⟨⟨d1, d2, d3⟩, r2⟩ := hc0' hly
      obtain ⟨q1, q2, q3⟩ := key_at HK.out hlx hly
      rw [← q1] at r2
      rw [← q2] at d2
      rw [← q3] at d3
      generalize ts[k].A = yA at d1 r2
      generalize ts[k].n = yn at d1 r2
      generalize ts[k].c = yc at d1 r2
      clear q1 q2 q3
      generalize rs[k] = x at c1 c2 c3 r1 d2 d3 r2
      obtain ⟨xA, xn, xc, xxs, xa, xch⟩ := x
      simp only at c1 c2 c3 d1 d2 d3 r1 r2
      obtain rfl : xxs.length = xn := r1.len
      obtain rfl : xxs.length = yn := r2.len
      have hs := hb.size
      have cE := Lib.hid (fun d os => Calls.regrown_of (eqRule_same xA yA xxs.length xc yc xxs xa xch (grow (redrawn wr d) os) (r1.below (below_regrown wr d os)) (r2.below (below_regrown wr d os))))
      clear hc0 hc0' h h' r1 r2
      have k1 := cell_regrown c1
      have k2 := cell_regrown c2
      have k3 := cell_regrown c3
      have k5 := cell_regrown d1
      have k6 := cell_regrown d2
      have k7 := cell_regrown d3
      go_wp2_with fail
      refine wp_region_quiet_below (by kernel_rfl) (by kernel_rfl) ?_
      repeat (go_big_quiet_step ((go_at_call 33; exact cE.out _ _)))
      refine wpQuiet_nil ?_
      intro _ hw'
      obtain ⟨⟨dq, osq⟩, hw''⟩ := hw'
      subst hw''
      have H1 := chain hb (below_regrown wr dq osq) hs
      clear k1 k2 k3 k5 k6 k7 cE c1 c2 c3 d1 d2 d3
      dsimp only
      generalize grow (redrawn wr dq) osq = V at *
      go_wp2
      go_roundw
      case rel => exact ⟨k + 1, by omega, by go_num, H1⟩
      case measure => simp [intOf]; omega
    · obtain rfl : k = n := by omega
      clear h h'
      go_wp2
      go_ret
      exact ⟨rfl, hb⟩
end Go.Proofs.YtoapnjlpmjcloaaDoor
