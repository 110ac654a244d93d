/-
  WALKS: laws.szRule, toRule, eqRule.
-/
import Derived.Test.YtoapnjlpmjcloaaDoorSzTest
import Derived.Test.YtoapnjlpmjcloaaDoorToTest
import Derived.Test.YtoapnjlpmjcloaaDoorEqTest
import Derived.Test.YtoapnjlpmjcloaaDoorDrNear
namespace Go.Proofs.YtoapnjlpmjcloaaDoor
open Go.ChangeShapes Go.WideShapes Go.ChangeAt Go.RowKit Go.Sort Pf
set_option maxRecDepth 20000

set_option maxHeartbeats 400000 in
theorem szRule_any (A : Option Addr) (n c : Nat) (a ch : Int) (hn : n ≤ maxLen) (w : World) :
    Calls Tryd.prog 29 #[.agg #[.slice A n c, .int .i64 a, .int .i64 ch], .int .i64 1048576] w fun e w' => e = .returned (.int .i64 (szF 1048576 n)) ∧ Below w.heap.size w w' := by
  have CZ := Lib.hid (fun W => szTestS_any A n c 1048576 (by omega) (by omega) hn W)
  have H0 := Lib.hid (below_one w (.cells #[.slice A n c, .int .i64 a, .int .i64 ch] 44))
  obtain ⟨z, hz⟩ : ∃ z, szF 1048576 n = z := ⟨_, rfl⟩
  have hzz : z < 0 → z = -1 := by rw [← hz]; unfold szF; split <;> omega
  rw [hz] at CZ ⊢
  clear hz hn
  go_enter Tryd.func29, Tryd.ntmps29
  go_wp2_with fail
  refine (CZ.out _).mono ?_
  rintro e w1 ⟨rfl, rfl⟩
  by_cases hz0 : z < 0
  · obtain rfl := hzz hz0
    go_wp2
    go_ret
    exact ⟨rfl, H0.out⟩
  · go_wp2
    go_ret
    exact ⟨rfl, H0.out⟩
theorem Rt.setCell {w : World} {A : Option Addr} {n c : Nat} {xs : TS} (h : Rt w A n c xs) (p : Addr) (x : Value) (hne : ∀ a, A = some a → a.block ≠ p.block) : Rt (w.setCell p x) A n c xs := h.grown (grownBy_setCell w p x) hne

set_option maxHeartbeats 1000000 in
theorem toRule_any (A : Option Addr) (n c : Nat) (xs : TS) (a ch : Int) (w : World) (h : Rt w A n c xs) (hn : n ≤ 1048576) :
    Calls Tryd.prog 31 #[.agg #[.slice A n c, .int .i64 a, .int .i64 ch]] w fun e w' => ∃ B d, e = .returned (.agg #[.slice B xs.length d, .int .i64 a, .int .i64 ch]) ∧ Rt w' B xs.length d xs ∧ Below w.heap.size w w' := by
  have hb1 := below_one w (.cells #[.slice A n c, .int .i64 a, .int .i64 ch] 44)
  have hb2 := below_one (w.alloc (.cells #[.slice A n c, .int .i64 a, .int .i64 ch] 44)) (.cells #[.slice none 0 0, .int .i64 0, .int .i64 0] 48)
  have hb3 := below_one ((w.alloc (.cells #[.slice A n c, .int .i64 a, .int .i64 ch] 44)).alloc (.cells #[.slice none 0 0, .int .i64 0, .int .i64 0] 48)) (.cells #[.slice none 0 0, .int .i64 0, .int .i64 0] 48)
  have h12 := chain hb1 hb2 hb1.size
  have h123 := chain h12 hb3 h12.size
  have CT := Lib.hid (toTestS_any A n c xs _ (h.below h123) hn)
  have K1 := Lib.hid (((Blk.new w #[.slice A n c, .int .i64 a, .int .i64 ch] 44).below hb2).below hb3)
  have k2 := (Blk.new (w.alloc (.cells #[.slice A n c, .int .i64 a, .int .i64 ch] 44)) #[.slice none 0 0, .int .i64 0, .int .i64 0] 48).below hb3
  have k3 := Blk.new ((w.alloc (.cells #[.slice A n c, .int .i64 a, .int .i64 ch] 44)).alloc (.cells #[.slice none 0 0, .int .i64 0, .int .i64 0] 48)) #[.slice none 0 0, .int .i64 0, .int .i64 0] 48
  simp only [World.size_alloc] at k2 k3
  have K2 := Lib.hid k2
  have K3 := Lib.hid k3
  have H0 := Lib.hid h123
  clear h k2 k3 hb1 hb2 hb3 h12 h123
  go_enter Tryd.func31, Tryd.ntmps31
  go_wp2_with fail
  refine (CT.out).mono ?_
  rintro e w1 ⟨B, d, rfl, own, hb⟩
  have hne : ∀ q, B = some q → w.heap.size + 1 + 1 < q.block := by
    intro q hq
    subst hq
    rcases ownS_form own with ⟨e1, -, -⟩ | ⟨g, e1, hg, -⟩
    · cases e1
    · injection e1 with e1
      subst e1
      simp only [World.size_alloc] at hg
      simp only
      omega
  have R1 := Lib.hid (Rt.of_own own)
  have H1 := Lib.hid (chain H0.out hb H0.out.size)
  have k1 := K1.out.below hb
  have k2 := K2.out.below hb
  have k3 := K3.out.below hb
  have c0 := k1.c 0 rfl
  have c1 := k1.c 1 rfl
  have c2 := k1.c 2 rfl
  have d0 := k2.c 0 rfl
  have d1 := k2.c 1 rfl
  have d2 := k2.c 2 rfl
  have e0 := k2.f 0 rfl
  have e1 := k2.f 1 rfl
  have e2 := k2.f 2 rfl
  have m0 := k3.c 0 rfl
  have m1 := k3.c 1 rfl
  have m2 := k3.c 2 rfl
  have n0 := k3.f 0 rfl
  have n1 := k3.f 1 rfl
  have n2 := k3.f 2 rfl
  clear own hb k1 k2 k3 K1 K2 K3 H0 CT
  go_wp2
  refine bodyPost_ret (v := .agg #[.slice B xs.length d, .int .i64 a, .int .i64 ch]) (by simp [results, Tryd.results31, go_sem, d0, d1, d2]) rfl ⟨B, d, rfl, ?_, ?_⟩
  · have q1 : ∀ q, B = some q → q.block ≠ w.heap.size + 1 := fun q hq => by have := hne q hq; omega
    have q2 : ∀ q, B = some q → q.block ≠ w.heap.size + 1 + 1 := fun q hq => by have := hne q hq; omega
    exact (((((R1.out.setCell _ _ q2).setCell _ _ q2).setCell _ _ q2).setCell _ _ q1).setCell _ _ q1).setCell _ _ q1
  · exact (((((H1.out.setCell (by simp only; omega) _).setCell (by simp only; omega) _).setCell (by simp only; omega) _).setCell (by simp only; omega) _).setCell (by simp only; omega) _).setCell (by simp only; omega) _

set_option maxHeartbeats 1000000 in
theorem eqRule_same (A B : Option Addr) (n c d : Nat) (xs : TS) (a ch : Int) (w : World) (h : Rt w A n c xs) (h' : Rt w B n d xs) :
    Calls Tryd.prog 33 #[.agg #[.slice A n c, .int .i64 a, .int .i64 ch], .agg #[.slice B n d, .int .i64 a, .int .i64 ch]] w fun e w' => e = .returned (.bool true) ∧ Below w.heap.size w w' := by
  have hb1 := below_one w (.cells #[.slice A n c, .int .i64 a, .int .i64 ch] 48)
  have hb2 := below_one (w.alloc (.cells #[.slice A n c, .int .i64 a, .int .i64 ch] 48)) (.cells #[.slice B n d, .int .i64 a, .int .i64 ch] 48)
  have h12 := chain hb1 hb2 hb1.size
  have CE := Lib.hid (eqTestS_same A B n c d xs _ (h.below h12) (h'.below h12))
  have K1 := Lib.hid ((Blk.new w #[.slice A n c, .int .i64 a, .int .i64 ch] 48).below hb2)
  have k2 := Blk.new (w.alloc (.cells #[.slice A n c, .int .i64 a, .int .i64 ch] 48)) #[.slice B n d, .int .i64 a, .int .i64 ch] 48
  simp only [World.size_alloc] at k2
  have K2 := Lib.hid k2
  have H0 := Lib.hid h12
  have ha : (a != a) = false := by simp
  have hc : (ch != ch) = false := by simp
  clear h h' k2 hb1 hb2 h12
  go_enter Tryd.func33, Tryd.ntmps33
  go_wp2_with fail
  refine (CE.out).mono ?_
  rintro e w1 ⟨rfl, hb⟩
  have H1 := Lib.hid (chain H0.out hb H0.out.size)
  have c1 := (K1.out.below hb).c 1 rfl
  have c2 := (K1.out.below hb).c 2 rfl
  have d1 := (K2.out.below hb).c 1 rfl
  have d2 := (K2.out.below hb).c 2 rfl
  clear hb K1 K2 H0 CE
  go_wp2
  go_ret
  exact ⟨rfl, H1.out⟩
end Go.Proofs.YtoapnjlpmjcloaaDoor
