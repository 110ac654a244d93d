/-
  WALK: spec.PrefixText: 'ptext'.
-/
import Derived.Test.YtbonhnllfkefnaaDoorPv
import Derived.Test.YtbonhnllfkefnaaDoorNumber
import Derived.Lib.QuietBelow
import Derived.Deep.QuietTactic
import Derived.BigQuiet
namespace Go.Proofs.YtbonhnllfkefnaaDoor
open Go.ChangeShapes Go.WideShapes Go.ChangeAt Go.RowKit Go.Sort Pf

def ptext (b l : Int) : List UInt8 :=
  if pvB b l then ((((Lib.decDigits (b.toNat / 256) ++ [46]) ++ Lib.decDigits (b.toNat % 256)) ++ [47]) ++ Lib.decDigits l.toNat) else []

set_option maxHeartbeats 2000000 in
theorem sPrefixText_any (b l : Int) (w : World) :
    Calls Tryd.prog 4 #[.agg #[.int .i64 b, .int .i64 l]] w fun e w' => e = .returned (.string ⟨(ptext b l).toArray⟩) ∧ Below w.heap.size w w' := by
  have CS := Lib.hid (fun W => sPrefixValid_any b l W)
  go_enter Tryd.func4, Tryd.ntmps4
  go_wp2_with fail
  refine (CS.out _).mono ?_
  rintro e w1 ⟨rfl, hb1⟩
  have c0 := keepCell hb1 (show (w.alloc (.cells #[.int .i64 b, .int .i64 l] 25)).cell? ⟨w.heap.size, 0, none⟩ = some (.int .i64 b) by go_cell)
  have c1 := keepCell hb1 (show (w.alloc (.cells #[.int .i64 b, .int .i64 l] 25)).cell? ⟨w.heap.size, 1, none⟩ = some (.int .i64 l) by go_cell)
  have H1 := Lib.hid (chain (below_one w _) hb1 (by simp))
  clear hb1 CS
  cases hv : pvB b l with
  | false =>
    go_wp2
    go_ret
    exact ⟨by simp [ptext, hv], H1.out⟩
  | true =>
    go_wp2_with fail
    obtain ⟨⟨l0, l1, b0, b1⟩, -⟩ := pvB_iff.1 hv
    obtain ⟨m, rfl⟩ : ∃ m : Nat, b = m := ⟨b.toNat, by omega⟩
    obtain ⟨q, rfl⟩ : ∃ q : Nat, l = q := ⟨l.toNat, by omega⟩
    have HV := Lib.hid hv
    have hsz : ∀ n, n < 1000 → (⟨(Lib.decDigits n).toArray⟩ : ByteArray).size ≤ 3 := fun n hn => by
      have h3 : (Lib.decDigits n).length ≤ 3 := by
        rw [Lib.decDigits_length]
        unfold Lib.nDigits; split <;> first | omega | (unfold Lib.nDigits; split <;> first | omega | (unfold Lib.nDigits; split <;> omega))
      exact h3
    obtain ⟨s1, E1⟩ : ∃ s : ByteArray, s = ⟨(Lib.decDigits (m / 256)).toArray⟩ := ⟨_, rfl⟩
    obtain ⟨s2, E2⟩ : ∃ s : ByteArray, s = ⟨(Lib.decDigits (m % 256)).toArray⟩ := ⟨_, rfl⟩
    obtain ⟨s3, E3⟩ : ∃ s : ByteArray, s = ⟨(Lib.decDigits q).toArray⟩ := ⟨_, rfl⟩
    have z1 : s1.size ≤ 3 := E1 ▸ hsz _ (by omega)
    have z2 : s2.size ≤ 3 := E2 ▸ hsz _ (by omega)
    have z3 : s3.size ≤ 3 := E3 ▸ hsz _ (by omega)
    have o1 : (⟨#[46]⟩ : ByteArray).size = 1 := rfl
    have o2 : (⟨#[47]⟩ : ByteArray).size = 1 := rfl
    obtain ⟨t1, T1⟩ : ∃ t : ByteArray, t = s1 ++ ⟨#[46]⟩ := ⟨_, rfl⟩
    obtain ⟨t2, T2⟩ : ∃ t : ByteArray, t = t1 ++ s2 := ⟨_, rfl⟩
    obtain ⟨t3, T3⟩ : ∃ t : ByteArray, t = t2 ++ ⟨#[47]⟩ := ⟨_, rfl⟩
    obtain ⟨t4, T4⟩ : ∃ t : ByteArray, t = t3 ++ s3 := ⟨_, rfl⟩
    have y1 : t1.size = s1.size + 1 := by rw [T1, ByteArray.size_append, o1]
    have y2 : t2.size = t1.size + s2.size := by rw [T2, ByteArray.size_append]
    have y3 : t3.size = t2.size + 1 := by rw [T3, ByteArray.size_append, o2]
    have a1 : ∀ W : World, (Op.stringOp .add s1 ⟨#[46]⟩).run Tryd.prog W = .ok (.string t1) W := fun W => by rw [T1]; exact run_string_add_sum W _ _ (by rw [o1]; omega)
    have a2 : ∀ W : World, (Op.stringOp .add t1 s2).run Tryd.prog W = .ok (.string t2) W := fun W => by rw [T2]; exact run_string_add_sum W _ _ (by omega)
    have a3 : ∀ W : World, (Op.stringOp .add t2 ⟨#[47]⟩).run Tryd.prog W = .ok (.string t3) W := fun W => by rw [T3]; exact run_string_add_sum W _ _ (by rw [o2]; omega)
    have a4 : ∀ W : World, (Op.stringOp .add t3 s3).run Tryd.prog W = .ok (.string t4) W := fun W => by rw [T4]; exact run_string_add_sum W _ _ (by omega)
    have N1 := Lib.hid (show ∀ W : World, Calls Tryd.prog 8 #[.int .i64 (wrap64 ((m : Int) / 256))] W fun e w' => e = .returned (.string s1) ∧ Below W.heap.size W w' from fun W => by
      have := number_any (m / 256) (by omega) W
      rwa [← E1, show ((m / 256 : Nat) : Int) = wrap64 ((m : Int) / 256) from by rw [IntWalk.wrap64_in _ (by omega)]; omega] at this)
    have N2 := Lib.hid (show ∀ W : World, Calls Tryd.prog 8 #[.int .i64 ((m : Int) % 256)] W fun e w' => e = .returned (.string s2) ∧ Below W.heap.size W w' from fun W => by
      have := number_any (m % 256) (by omega) W
      rwa [← E2, show ((m % 256 : Nat) : Int) = (m : Int) % 256 from by omega] at this)
    have N3 := Lib.hid (show ∀ W : World, Calls Tryd.prog 8 #[.int .i64 (q : Int)] W fun e w' => e = .returned (.string s3) ∧ Below W.heap.size W w' from fun W => by
      have := number_any q (by omega) W
      rwa [← E3] at this)
    have HT := Lib.hid (show t4 = ⟨(ptext (m : Int) (q : Int)).toArray⟩ by
      rw [T4, T3, T2, T1, E1, E2, E3]
      unfold ptext
      rw [if_pos HV.out]
      apply ByteArray.ext
      simp [ByteArray.data_append])
    clear hv hsz E1 E2 E3 T1 T2 T3 T4 z1 z2 z3 y1 y2 y3 o1 o2 l0 l1 b0 b1
    have k0 := cell_regrown c0
    have k1 := cell_regrown c1
    clear c0 c1
    have M1 := Lib.hid (fun d os => Calls.regrown_of (N1.out (grow (redrawn w1 d) os)))
    have M2 := Lib.hid (fun d os => Calls.regrown_of (N2.out (grow (redrawn w1 d) os)))
    have M3 := Lib.hid (fun d os => Calls.regrown_of (N3.out (grow (redrawn w1 d) os)))
    clear N1 N2 N3
    refine wp_region_quiet_below (by kernel_rfl) (by kernel_rfl) ?_
    repeat (go_big_quiet_step ((go_at_call 8; first | (with_reducible exact M1.out _ _) | (with_reducible exact M2.out _ _) | (with_reducible exact M3.out _ _))))
    refine wpQuiet_nil ?_
    intro _ hw'
    obtain ⟨⟨dq, osq⟩, hw''⟩ := hw'
    subst hw''
    have H2 := chain H1.out (below_regrown w1 dq osq) H1.out.size
    clear k0 k1 a1 a2 a3 a4 M1 M2 M3
    dsimp only
    go_wp2
    go_ret
    exact ⟨by rw [HT.out]; rfl, H2⟩
end Go.Proofs.YtbonhnllfkefnaaDoor
