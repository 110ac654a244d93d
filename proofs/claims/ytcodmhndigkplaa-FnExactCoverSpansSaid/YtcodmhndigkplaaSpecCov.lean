/-
  WALKS: spec.l4Cover, spec.CoverSpan: 'coverF', 'coverV'.
-/
import Derived.Test.YtcodmhndigkplaaCovW
import Derived.Test.YtcodmhndigkplaaIn
import Derived.Deep.LoopGhost
namespace Go.Proofs.Ytcodmhndigkplaa
open Go.ChangeShapes Go.WideShapes Go.ChangeAt Go.RowKit Go.Sort Pf
set_option maxRecDepth 20000

theorem wrap_p2' {j : Nat} (h : j ≤ 16) : wrap64 (2 ^ j) = p2 j := by
  have := p2_bd h
  show wrap64 (p2 j) = p2 j
  exact IntWalk.wrap64_in _ (by omega)
theorem wrap_p2 {j : Nat} (h : j < 16) : wrap64 (2 * 2 ^ j) = p2 (j + 1) := by
  have h1 := p2_bd (show j + 1 ≤ 16 from h)
  have h2 := p2_succ j
  show wrap64 (2 * p2 j) = _
  rw [← h2]
  exact IntWalk.wrap64_in _ (by omega)
theorem owns_emptyP {w w1 : World} {g : Nat} (H : Below w.heap.size w w1) (hg : g = w1.heap.size) : Owns 24 [] w (.returned (.slice (some ⟨g, 0, none⟩) 0 0)) (w1.alloc (.cells #[] 24)) := by
  subst hg
  exact ⟨_, _, rfl, own_mono (World.ownsRow_lit (e := 24) w1 #[] 0 (Nat.le_refl _) (by unfold maxLen; omega) rfl) H.size, H.alloc H.size _⟩

set_option maxHeartbeats 1000000 in
theorem l4Cover_any (lo hi : Int) (w : World) (h0 : 0 ≤ lo) (h1 : lo ≤ 65536) (h2 : hi ≤ 65535) : Calls Try.prog 56 #[.int .i64 lo, .int .i64 hi] w (Owns 24 (coverF lo hi) w) := by
  obtain ⟨i0, hi0, hz0, hz1, hz2⟩ := info_parts infoPrefixE
  go_enter Try.func56, Try.ntmps56
  go_wp2
  go_loopg [0, 5] (hi + 1 - lo).toNat (fun g s0 s5 wr => ∃ (x : Int) (outs : PS) (A' : Option Addr) (c' : Nat), g = (hi + 1 - x).toNat ∧ 0 ≤ x ∧ x ≤ 65536 ∧ s0 = .int .i64 x ∧ s5 = .slice A' outs.length c' ∧ outs ++ coverF x hi = coverF lo hi ∧
      wr.ownsRow w.heap.size 24 2 (.slice A' outs.length c') outs.length (flat outs) ∧ Below w.heap.size w wr)
  case atStart => exact ⟨lo, [], _, _, rfl, h0, h1, rfl, rfl, rfl, World.ownsRow_lit (e := 24) w #[] 0 (Nat.le_refl _) (by unfold maxLen; omega) rfl, below_one _ _⟩
  case round =>
    obtain ⟨x, outs, A', c', hg, hx0, hx1, rfl, rfl, heq, own, hb⟩ := hrel
    have HG := Lib.hid hg
    have HEQ := Lib.hid heq
    have HO := Lib.hid own
    have hol : outs.length ≤ 30 := by have := coverF_length lo hi; rw [← heq, List.length_append] at this; omega
    clear hg heq own
    by_cases hxh : x ≤ hi
    · go_upto_block 2 with fail
      go_cut [6] (fun s6 wx => ∃ j : Nat, s6 = .int .i64 j ∧ j ≤ 16 ∧ p2 j ∣ x ∧ x + p2 j - 1 ≤ hi ∧ (j = 16 ∨ ¬ (p2 (j + 1) ∣ x ∧ x + p2 (j + 1) - 1 ≤ hi)) ∧ wr = wx)
      case first =>
        go_wp2_with fail
        go_loopg [6] 16 (fun g s6 wx => ∃ j : Nat, g + j = 16 ∧ s6 = .int .i64 j ∧ p2 j ∣ x ∧ x + p2 j - 1 ≤ hi ∧ wr = wx)
        case atStart => exact ⟨0, rfl, rfl, by rw [p2_zero]; exact Int.one_dvd _, by rw [p2_zero]; omega, rfl⟩
        case round =>
          obtain ⟨j, hgj, rfl, hd, hle, rfl⟩ := hrel
          have HGJ := Lib.hid hgj
          have HD := Lib.hid hd
          have HLE := Lib.hid hle
          have hj : j ≤ 16 := by omega
          clear hgj hd hle
          by_cases hj1 : j < 16
          · have hw : wrap64 (2 * 2 ^ j) = p2 (j + 1) := wrap_p2 hj1
            have hp := p2_bd (show j + 1 ≤ 16 from hj1)
            obtain ⟨hp1, hp2⟩ := hp
            by_cases hm : x % p2 (j + 1) = 0
            · have hmb : (x % p2 (j + 1) == 0) = true := by simpa using hm
              have HM := Lib.hid hm
              clear hm
              by_cases hh : x + p2 (j + 1) - 1 ≤ hi
              · go_wp2
                go_roundg (gk - 1)
                case measure => have := HGJ.out; omega
                case rel => exact ⟨j + 1, by have := HGJ.out; omega, by go_num, Int.dvd_of_emod_eq_zero HM.out, hh, rfl⟩
              · have hh1 : hi < x + p2 (j + 1) - 1 := by omega
                go_wp2
                go_meet
                exact ⟨j, rfl, hj, HD.out, HLE.out, .inr fun h => absurd h.2 (by omega), rfl⟩
            · have hmb : (x % p2 (j + 1) == 0) = false := by simpa using hm
              have HM := Lib.hid hm
              clear hm
              go_wp2
              go_meet
              exact ⟨j, rfl, hj, HD.out, HLE.out, .inr fun h => HM.out (Int.emod_eq_zero_of_dvd h.1), rfl⟩
          · have hj2 : (16 : Int) ≤ j := by omega
            have hje : j = 16 := by omega
            have HJE := Lib.hid hje
            clear hje
            go_wp2
            go_meet
            exact ⟨j, rfl, hj, HD.out, HLE.out, .inl HJE.out, rfl⟩
      case rest =>
        obtain ⟨j, rfl, hj16, hd, hle, hmax, rfl⟩ := hcut
        have hw : wrap64 (2 ^ j) = p2 j := wrap_p2' hj16
        have hp := p2_bd hj16
        obtain ⟨hp1, hp2⟩ := hp
        have HS := Lib.hid (coverF_step hx0 h2 hj16 hd hle hmax)
        have HE := Lib.hid (show (outs ++ [(x, 16 - (j : Int))]) ++ coverF (x + p2 j) hi = coverF lo hi from by rw [List.append_assoc, ← HEQ.out, HS.out]; rfl)
        have hz := hb.size
        clear hd hmax
        go_wp2_with (first
          | (at_builtin; refine wpList_push rfl (.tmp 31) (.tmp 36) 31 rfl w.heap.size 24 i0 _ 16 Try.underlying31 hi0 hz0 hz1 hz2 rfl _ _ _ rfl (HO.out.alloc _) ⟨wr.heap.size, 0, none⟩ 1 [.int .i64 x, .int .i64 (16 - j)] rfl rfl (news_cells _ _) (news_one _ _) (by unfold maxLen; omega) (by omega) (by simp; omega) ?_; intro v1 w1 own1 hg1 hs1; have O1 := Lib.hid own1; have G1 := Lib.hid hg1; clear own1 hg1 hs1))
        go_roundg (hi + 1 - (x + p2 j)).toNat
        case measure => have := HG.out; omega
        case rel =>
          obtain ⟨A2, c2, hv⟩ := own_slice O1.out
          have hl2 : (outs ++ [(x, 16 - (j : Int))]).length = outs.length + 1 := by simp
          refine ⟨x + p2 j, outs ++ [(x, 16 - (j : Int))], A2, c2, rfl, by omega, by omega, rfl, by rw [hl2]; exact hv, HE.out, ?_, ?_⟩
          · rw [hl2, ← flat_push, ← hv]; exact O1.out
          · exact (hb.alloc hz _).grown G1.out (by simp; omega) fun k hk => (HO.out.lt k hk).1
    · have hnil : coverF x hi = [] := coverF_nil hx0 h2 (by omega)
      have HF := Lib.hid (show outs = coverF lo hi from by rw [← HEQ.out, hnil, List.append_nil])
      clear hnil
      go_wp2
      go_ret
      rw [← HF.out]
      exact ⟨A', c', rfl, HO.out, hb⟩

set_option maxHeartbeats 1000000 in
theorem sCoverSpan_any (lo hi : Int) (w : World) : Calls Try.prog 19 #[.agg #[.int .i64 lo, .int .i64 hi]] w (Owns 24 (coverV lo hi) w) := by
  by_cases c1 : 0 ≤ lo ∧ lo ≤ hi
  · have hr1 := l1In_as lo 0 hi true (by simp [inR, c1])
    by_cases c2 : 0 ≤ hi ∧ hi ≤ 65535
    · have hr2 := l1In_as hi 0 65535 true (by simp [inR, c2])
      have HC := Lib.hid (show coverV lo hi = coverF lo hi from if_pos ⟨c1.1, c1.2, c2.2⟩)
      have R1 := Lib.hid hr1
      have R2 := Lib.hid hr2
      have C := Lib.hid (fun W => l4Cover_any lo hi W c1.1 (by omega) c2.2)
      clear hr1 hr2 c1 c2
      go_enter Try.func19, Try.ntmps19
      go_wp2_with fail
      refine (R1.out _).mono ?_
      rintro e w1 ⟨rfl, rfl⟩
      go_wp2_with fail
      refine (R2.out _).mono ?_
      rintro e w1 ⟨rfl, rfl⟩
      go_wp2_with fail
      refine (C.out _).mono ?_
      rintro e w1 ⟨A1, c1, rfl, own1, hb1⟩
      have O1 := Lib.hid own1
      clear own1
      go_wp2
      go_ret
      rw [HC.out]
      exact ⟨A1, c1, rfl, own_mono O1.out (below_one _ _).size, chain (below_one _ _) hb1 (below_one _ _).size⟩
    · have hr2 := l1In_as hi 0 65535 false (by simp [inR]; omega)
      have HC := Lib.hid (show coverV lo hi = [] from if_neg (by omega))
      have R1 := Lib.hid hr1
      have R2 := Lib.hid hr2
      clear hr1 hr2 c1 c2
      go_enter Try.func19, Try.ntmps19
      go_wp2_with fail
      refine (R1.out _).mono ?_
      rintro e w1 ⟨rfl, rfl⟩
      go_wp2_with fail
      refine (R2.out _).mono ?_
      rintro e w1 ⟨rfl, rfl⟩
      go_wp2
      go_ret
      rw [HC.out]
      exact owns_emptyP (below_one _ _) (by simp)
  · have hr1 := l1In_as lo 0 hi false (by simp [inR]; omega)
    have HC := Lib.hid (show coverV lo hi = [] from if_neg (by omega))
    have R1 := Lib.hid hr1
    clear hr1 c1
    go_enter Try.func19, Try.ntmps19
    go_wp2_with fail
    refine (R1.out _).mono ?_
    rintro e w1 ⟨rfl, rfl⟩
    go_wp2
    go_ret
    rw [HC.out]
    exact owns_emptyP (below_one _ _) (by simp)
end Go.Proofs.Ytcodmhndigkplaa
