/-
  WALKS: impl.halves, coverBelow, CoverSpan.
-/
import Derived.Test.YtcodmhndigkplaaCov
import Derived.Test.YtcodmhndigkplaaGrow
import Derived.Test.YtcodmhndigkplaaPv
import Derived.Test.YtcodmhndigkplaaApp
import Derived.StillTailTactics
import Derived.BigRegion
import Derived.Deep.CutBlock
import Derived.Deep.DeepCutAuto
namespace Go.Proofs.Ytcodmhndigkplaa
open Go.ChangeShapes Go.WideShapes Go.ChangeAt Go.RowKit Go.Sort Pf
set_option maxRecDepth 20000

theorem infoPrefixE : (Try.prog.info? 24).map (fun i => (i.zero, i.size, i.bytes)) = some (some (.agg #[.int .i64 0, .int .i64 0]), 2, 16) := by kernel_rfl

set_option maxHeartbeats 400000 in
theorem halves_any (b l : Int) (w : World) (h : pvB b l = true) (hl : l < 16) :
    Calls Try.prog 73 #[.agg #[.int .i64 b, .int .i64 l]] w fun e w' => e = .returned (.tuple #[.agg #[.int .i64 b, .int .i64 (l + 1)], .agg #[.int .i64 (b + pw (l + 1)), .int .i64 (l + 1)]]) ∧ Below w.heap.size w w' := by
  have HM := Lib.hid (or_half h hl)
  obtain ⟨⟨h0, h1, h2, h3⟩, h4⟩ := pvB_iff.1 h
  clear h4 h
  have hp := pw_wrapK (l + 1) (by omega)
  have hs : IntKind.i64.wrap (16 - (l + 1)) = 16 - (l + 1) := IntWalk.i64_in _ (by omega)
  have hs0 : 0 ≤ 16 - (l + 1) := by omega
  have HP := Lib.hid hp
  have HS := Lib.hid hs
  clear hp hs
  go_enter Try.func73, Try.ntmps73
  go_wp2_with fail
  have hB := below_three w (.cells #[.int .i64 b, .int .i64 l] 24) (.cells #[.int .i64 0, .int .i64 0] 24) (.cells #[.int .i64 0, .int .i64 0] 24)
  obtain ⟨W, hW⟩ : ∃ W, ((w.alloc (.cells #[.int .i64 b, .int .i64 l] 24)).alloc (.cells #[.int .i64 0, .int .i64 0] 24)).alloc (.cells #[.int .i64 0, .int .i64 0] 24) = W := ⟨_, rfl⟩
  have HW := Lib.hid hW
  clear hW
  have p0 : W.cell? ⟨w.heap.size, 0, none⟩ = some (.int .i64 b) := by rw [← HW.out]; go_cell
  have p1 : W.cell? ⟨w.heap.size, 1, none⟩ = some (.int .i64 l) := by rw [← HW.out]; go_cell
  have q0 : W.cell? ⟨w.heap.size + 1, 0, none⟩ = some (.int .i64 0) := by rw [← HW.out]; go_cell
  have q1 : W.cell? ⟨w.heap.size + 1, 1, none⟩ = some (.int .i64 0) := by rw [← HW.out]; go_cell
  have f0 : W.frozen? ⟨w.heap.size + 1, 0, none⟩ = false := by rw [← HW.out]; go_simp
  have f1 : W.frozen? ⟨w.heap.size + 1, 1, none⟩ = false := by rw [← HW.out]; go_simp
  have r0 : W.cell? ⟨w.heap.size + 1 + 1, 0, none⟩ = some (.int .i64 0) := by rw [← HW.out]; go_cell
  have r1 : W.cell? ⟨w.heap.size + 1 + 1, 1, none⟩ = some (.int .i64 0) := by rw [← HW.out]; go_cell
  have g0 : W.frozen? ⟨w.heap.size + 1 + 1, 0, none⟩ = false := by rw [← HW.out]; go_simp
  have g1 : W.frozen? ⟨w.heap.size + 1 + 1, 1, none⟩ = false := by rw [← HW.out]; go_simp
  rw [HW.out] at hB ⊢
  clear HW
  have hs := HS.out
  have hp := HP.out
  clear HP HS
  go_region
  go_wp2
  clear hs hp
  rw [HM.out]
  refine bodyPost_ret (v := .tuple #[.agg #[.int .i64 b, .int .i64 (l + 1)], .agg #[.int .i64 (b + pw (l + 1)), .int .i64 (l + 1)]]) (by simp [results, Try.results73, go_sem, q0, q1, r0, r1]) rfl ⟨rfl, ?_⟩
  exact ((((hB.setCell (by simp) _).setCell (by simp) _).setCell (by simp; omega) _).setCell (by simp; omega) _).drew

theorem pvB_left {b l : Int} (h : pvB b l = true) (hl : l < 16) : pvB b (l + 1) = true := by
  obtain ⟨⟨h0, h1, h2, h3⟩, h4⟩ := pvB_iff.1 h
  refine pvB_iff.2 ⟨⟨by omega, by omega, h2, h3⟩, ?_⟩
  rw [pw_half l hl] at h4
  exact Int.emod_eq_zero_of_dvd (Int.dvd_trans (Int.dvd_mul_left _ _) (Int.dvd_of_emod_eq_zero h4))
theorem pvB_right {b l : Int} (h : pvB b l = true) (hl : l < 16) : pvB (b + pw (l + 1)) (l + 1) = true := by
  have he := pvB_end h
  have h1 := pvB_left h hl
  rw [pw_half l hl] at he
  obtain ⟨⟨a0, a1, a2, a3⟩, a4⟩ := pvB_iff.1 h1
  have hp := (pw_bd (l + 1) a0).1
  refine pvB_iff.2 ⟨⟨a0, a1, by omega, by omega⟩, ?_⟩
  rw [Int.add_emod_right]; exact a4


/-- What coverBelow does with the block of p2 k addresses. -/
def CbSays (lo hi : Int) (base k : Nat) : Prop := ∀ (b l : Int) (A : Option Addr) (c : Nat) (xs : PS) (w : World), l = 16 - (k : Int) → pvB b l = true → base ≤ w.heap.size →
    w.ownsRow base 24 2 (.slice A xs.length c) xs.length (flat xs) → xs.length + (trieF lo hi k b).length ≤ 1000000 →
    Calls Try.prog 57 #[.slice A xs.length c, .agg #[.int .i64 b, .int .i64 l], .agg #[.int .i64 lo, .int .i64 hi]] w (Grew 24 base (.slice A xs.length c) (xs ++ trieF lo hi k b) w)

set_option maxHeartbeats 1000000 in
theorem coverBelow_step (lo hi : Int) (base k : Nat) (ih : ∀ k', k = k' + 1 → CbSays lo hi base k') : CbSays lo hi base k := by
  intro b l A c xs w hl hv hbase own hN
  have hm := or_mask hv
  obtain ⟨⟨h0, h1, h2, h3⟩, h4⟩ := pvB_iff.1 hv
  have hq : pw l = p2 k := by rw [hl]; exact pw_p2
  obtain ⟨i0, hi0, hz0, hz1, hz2⟩ := info_parts infoPrefixE
  have HM := Lib.hid hm
  have HV := Lib.hid hv
  have CH := Lib.hid (fun W => hostMask_any l h0 h1 W)
  have HL := Lib.hid hl
  have HQ := Lib.hid hq
  have IH := Lib.hid ih
  have HO := Lib.hid own
  have HN := Lib.hid hN
  clear hm h4 hv hl hq ih own hN
  go_enter Try.func57, Try.ntmps57
  go_wp2_with fail
  go_quiet ((go_at_call 53; exact Calls.quiet_of_same (CH.out _)))
  rw [HM.out]
  have hB := below_two w (.cells #[.int .i64 b, .int .i64 l] 24) (.cells #[.int .i64 lo, .int .i64 hi] 33)
  obtain ⟨W, hW⟩ : ∃ W, ((w.alloc (.cells #[.int .i64 b, .int .i64 l] 24)).alloc (.cells #[.int .i64 lo, .int .i64 hi] 33)).drewN nq = W := ⟨_, rfl⟩
  have HW := Lib.hid hW
  clear hW
  have p0 : W.cell? ⟨w.heap.size, 0, none⟩ = some (.int .i64 b) := by rw [← HW.out]; go_cell
  have p1 : W.cell? ⟨w.heap.size, 1, none⟩ = some (.int .i64 l) := by rw [← HW.out]; go_cell
  have s0 : W.cell? ⟨w.heap.size + 1, 0, none⟩ = some (.int .i64 lo) := by rw [← HW.out]; go_cell
  have s1 : W.cell? ⟨w.heap.size + 1, 1, none⟩ = some (.int .i64 hi) := by rw [← HW.out]; go_cell
  have hB : Below w.heap.size w W := by rw [← HW.out]; exact below_drewN hB _
  have hz : w.heap.size + 1 < W.heap.size := by rw [← HW.out]; simp
  rw [HW.out]
  clear HW
  have HOW := Lib.hid (own_below HO.out hB)
  have he : b + pw l - 1 = b + p2 k - 1 := by rw [HQ.out]
  have hp := p2_pos k
  generalize b + pw l - 1 = e at he ⊢
  have HE := Lib.hid he
  have hbe : b ≤ e := by omega
  clear he hp
  by_cases c0 : e < lo ∨ hi < b
  · have HT := Lib.hid (trieF_out (lo := lo) (hi := hi) (k := k) (b := b) (by rw [← HE.out]; exact c0))
    rcases Int.lt_or_le e lo with c1 | c1
    · clear c0
      go_wp2
      go_ret
      rw [HT.out, List.append_nil]
      exact ⟨A, c, rfl, HOW.out, below_grown hB, SameOrNew.refl _ _⟩
    · have c2 : hi < b := by omega
      clear c0
      go_wp2
      go_ret
      rw [HT.out, List.append_nil]
      exact ⟨A, c, rfl, HOW.out, below_grown hB, SameOrNew.refl _ _⟩
  · have d1 : lo ≤ e := by omega
    have d2 : b ≤ hi := by omega
    clear c0
    by_cases c1 : lo ≤ b ∧ e ≤ hi
    · obtain ⟨c2, c3⟩ := c1
      have HT := Lib.hid (trieF_in (lo := lo) (hi := hi) (k := k) (b := b) c2 (by rw [← HE.out]; exact c3))
      have hN1 : xs.length ≤ 1000000 := by have := HN.out; omega
      go_wp2_with (first
        | (at_builtin; refine wpList_push rfl (.tmp 40) (.tmp 42) 31 rfl base 24 i0 _ 16 Try.underlying31 hi0 hz0 hz1 hz2 rfl _ _ _ rfl (HOW.out.alloc _) ⟨W.heap.size, 0, none⟩ 1 [.int .i64 b, .int .i64 l] rfl rfl (news_cells _ _) (news_one _ _) (by unfold maxLen; omega) (by omega) (by simp; omega) ?_; intro v1 w1 own1 hg1 hs1; have O1 := Lib.hid own1; have G1 := Lib.hid hg1; have S1 := Lib.hid hs1; clear own1 hg1 hs1))
      go_ret
      rw [HT.out]
      have hv := own_slice O1.out
      obtain ⟨A2, c2', rfl⟩ := hv
      have hl2 : (xs ++ [(b, 16 - (k : Int))]).length = xs.length + 1 := by simp
      refine ⟨A2, c2', by rw [hl2]; rfl, ?_, ?_, ?_⟩
      · rw [hl2, ← flat_push, ← HL.out]; exact O1.out
      · exact below_then hB (below_then (below_one _ _) G1.out)
      · rw [hl2]; exact S1.out.later (by have := hB.size; simp; omega)
    · have hk : k ≠ 0 := by
        rintro rfl
        have := HE.out
        rw [p2_zero] at this
        omega
      obtain ⟨k', rfl⟩ : ∃ k', k = k' + 1 := ⟨k - 1, by omega⟩
      have IHk := Lib.hid (IH.out k' rfl)
      have HT := Lib.hid (trieF_split (lo := lo) (hi := hi) (k := k') (b := b) (by rw [← HE.out]; exact d1) d2 (by rw [← HE.out]; exact c1))
      have hl16 : l < 16 := by have := HL.out; omega
      have hpk0 : pw (l + 1) = p2 k' := by rw [show l + 1 = 16 - (k' : Int) from by have := HL.out; omega]; exact pw_p2
      have HV1 := Lib.hid (pvB_left HV.out hl16)
      have HV2 := Lib.hid (pvB_right HV.out hl16)
      have hl1 : l + 1 = 16 - (k' : Int) := by have := HL.out; omega
      have HL1 := Lib.hid hl1
      have hpk := Lib.hid hpk0
      clear hl1 hpk0
      rcases Int.lt_or_le b lo with c2 | c2
      · clear c1 IH
        go_wp2_with fail
        refine (halves_any b l _ HV.out hl16).mono ?_
        rintro e1 w1 ⟨rfl, hb1⟩
        have t0 := keepCell hb1 s0
        have t1 := keepCell hb1 s1
        have H1 := chain hB hb1 hB.size
        have hzz : w.heap.size + 1 < w1.heap.size := by have := hb1.size; omega
        have OW1 := Lib.hid (own_below HOW.out hb1)
        clear hb1 hB HOW p0 p1 s0 s1
        go_upto_region 7 with fail
        obtain ⟨W2, hW⟩ : ∃ W2, (w1.alloc (.cells #[.int .i64 b, .int .i64 (l + 1)] 24)).alloc (.cells #[.int .i64 (b + pw (l + 1)), .int .i64 (l + 1)] 24) = W2 := ⟨_, rfl⟩
        have HW := Lib.hid hW
        clear hW
        have x0 : W2.cell? ⟨w1.heap.size, 0, none⟩ = some (.int .i64 b) := by rw [← HW.out]; go_cell
        have x1 : W2.cell? ⟨w1.heap.size, 1, none⟩ = some (.int .i64 (l + 1)) := by rw [← HW.out]; go_cell
        have y0 : W2.cell? ⟨w1.heap.size + 1, 0, none⟩ = some (.int .i64 (b + pw (l + 1))) := by rw [← HW.out]; go_cell
        have y1 : W2.cell? ⟨w1.heap.size + 1, 1, none⟩ = some (.int .i64 (l + 1)) := by rw [← HW.out]; go_cell
        have s0 : W2.cell? ⟨w.heap.size + 1, 0, none⟩ = some (.int .i64 lo) := by rw [← HW.out]; exact keepCell (below_two w1 _ _) t0
        have s1 : W2.cell? ⟨w.heap.size + 1, 1, none⟩ = some (.int .i64 hi) := by rw [← HW.out]; exact keepCell (below_two w1 _ _) t1
        have HB : Below w.heap.size w W2 := by rw [← HW.out]; exact chain H1 (below_two w1 _ _) H1.size
        have OW := Lib.hid (show W2.ownsRow base 24 2 (.slice A xs.length c) xs.length (flat xs) from by rw [← HW.out]; exact own_below OW1.out (below_two w1 _ _))
        have hzw : w1.heap.size + 1 < W2.heap.size := by rw [← HW.out]; simp
        rw [HW.out]
        clear HW t0 t1 OW1 H1
        have HB2 := HB.size
        have LN := Lib.hid (show (xs ++ trieF lo hi k' b).length + (trieF lo hi k' (b + pw (l + 1))).length ≤ 1000000 from by
          have := HN.out
          rw [HT.out, ← hpk.out, List.length_append] at this
          rw [List.length_append]; omega)
        have C1 := IHk.out b (l + 1) A c xs W2 HL1.out HV1.out (by omega) OW.out (by have := LN.out; rw [List.length_append] at this; omega)
        obtain ⟨zs, hzs⟩ : ∃ zs, xs ++ trieF lo hi k' b = zs := ⟨_, rfl⟩
        rw [hzs] at C1 LN
        have HZ := Lib.hid hzs
        have C1 := Lib.hid C1
        clear hzs
        go_wp2_with fail
        refine (C1.out).mono ?_
        rintro e2 w3 ⟨A3, c3, rfl, own3, hg3, hs3⟩
        have hnb : ∀ g, (Value.slice A xs.length c).ownBlock = some g → g < w.heap.size := fun g hg => (HO.out.lt g hg).2
        have y2 := grown_cell hg3 y0 (fun e => by have := hnb _ e; simp only at this; omega)
        have y3 := grown_cell hg3 y1 (fun e => by have := hnb _ e; simp only at this; omega)
        have s2 := grown_cell hg3 s0 (fun e => by have := hnb _ e; simp only at this; omega)
        have s3 := grown_cell hg3 s1 (fun e => by have := hnb _ e; simp only at this; omega)
        have O3 := Lib.hid own3
        have G3 := Lib.hid (And.intro hg3 hs3)
        have hz3 := hg3.size
        clear C1 own3 hg3 hs3 x0 x1 y0 y1 s0 s1
        go_wp2_with fail
        refine (IHk.out (b + pw (l + 1)) (l + 1) A3 c3 zs w3 HL1.out HV2.out (by omega) O3.out LN.out).mono ?_
        rintro e4 w5 ⟨A5, c5, rfl, own5, hg5, hs5⟩
        have O5 := Lib.hid own5
        have G5 := Lib.hid (And.intro hg5 hs5)
        clear own5 hg5 hs5 y2 y3 s2 s3
        go_wp2
        go_ret
        rw [HT.out, ← hpk.out, ← List.append_assoc, HZ.out]
        refine ⟨A5, c5, by rw [List.length_append]; rfl, O5.out, ?_, ?_⟩
        · exact below_then HB (grownBy_chain G3.out.1 G5.out.1 G3.out.2)
        · exact (G3.out.2.trans G5.out.2 hz3).later HB2
      · have c3 : hi < e := by have := HE.out; by_cases hc : hi < e; exact hc; exact absurd ⟨c2, by omega⟩ c1
        clear c1 IH
        go_wp2_with fail
        refine (halves_any b l _ HV.out hl16).mono ?_
        rintro e1 w1 ⟨rfl, hb1⟩
        have t0 := keepCell hb1 s0
        have t1 := keepCell hb1 s1
        have H1 := chain hB hb1 hB.size
        have hzz : w.heap.size + 1 < w1.heap.size := by have := hb1.size; omega
        have OW1 := Lib.hid (own_below HOW.out hb1)
        clear hb1 hB HOW p0 p1 s0 s1
        go_upto_region 7 with fail
        obtain ⟨W2, hW⟩ : ∃ W2, (w1.alloc (.cells #[.int .i64 b, .int .i64 (l + 1)] 24)).alloc (.cells #[.int .i64 (b + pw (l + 1)), .int .i64 (l + 1)] 24) = W2 := ⟨_, rfl⟩
        have HW := Lib.hid hW
        clear hW
        have x0 : W2.cell? ⟨w1.heap.size, 0, none⟩ = some (.int .i64 b) := by rw [← HW.out]; go_cell
        have x1 : W2.cell? ⟨w1.heap.size, 1, none⟩ = some (.int .i64 (l + 1)) := by rw [← HW.out]; go_cell
        have y0 : W2.cell? ⟨w1.heap.size + 1, 0, none⟩ = some (.int .i64 (b + pw (l + 1))) := by rw [← HW.out]; go_cell
        have y1 : W2.cell? ⟨w1.heap.size + 1, 1, none⟩ = some (.int .i64 (l + 1)) := by rw [← HW.out]; go_cell
        have s0 : W2.cell? ⟨w.heap.size + 1, 0, none⟩ = some (.int .i64 lo) := by rw [← HW.out]; exact keepCell (below_two w1 _ _) t0
        have s1 : W2.cell? ⟨w.heap.size + 1, 1, none⟩ = some (.int .i64 hi) := by rw [← HW.out]; exact keepCell (below_two w1 _ _) t1
        have HB : Below w.heap.size w W2 := by rw [← HW.out]; exact chain H1 (below_two w1 _ _) H1.size
        have OW := Lib.hid (show W2.ownsRow base 24 2 (.slice A xs.length c) xs.length (flat xs) from by rw [← HW.out]; exact own_below OW1.out (below_two w1 _ _))
        have hzw : w1.heap.size + 1 < W2.heap.size := by rw [← HW.out]; simp
        rw [HW.out]
        clear HW t0 t1 OW1 H1
        have HB2 := HB.size
        have LN := Lib.hid (show (xs ++ trieF lo hi k' b).length + (trieF lo hi k' (b + pw (l + 1))).length ≤ 1000000 from by
          have := HN.out
          rw [HT.out, ← hpk.out, List.length_append] at this
          rw [List.length_append]; omega)
        have C1 := IHk.out b (l + 1) A c xs W2 HL1.out HV1.out (by omega) OW.out (by have := LN.out; rw [List.length_append] at this; omega)
        obtain ⟨zs, hzs⟩ : ∃ zs, xs ++ trieF lo hi k' b = zs := ⟨_, rfl⟩
        rw [hzs] at C1 LN
        have HZ := Lib.hid hzs
        have C1 := Lib.hid C1
        clear hzs
        go_wp2_with fail
        refine (C1.out).mono ?_
        rintro e2 w3 ⟨A3, c3, rfl, own3, hg3, hs3⟩
        have hnb : ∀ g, (Value.slice A xs.length c).ownBlock = some g → g < w.heap.size := fun g hg => (HO.out.lt g hg).2
        have y2 := grown_cell hg3 y0 (fun e => by have := hnb _ e; simp only at this; omega)
        have y3 := grown_cell hg3 y1 (fun e => by have := hnb _ e; simp only at this; omega)
        have s2 := grown_cell hg3 s0 (fun e => by have := hnb _ e; simp only at this; omega)
        have s3 := grown_cell hg3 s1 (fun e => by have := hnb _ e; simp only at this; omega)
        have O3 := Lib.hid own3
        have G3 := Lib.hid (And.intro hg3 hs3)
        have hz3 := hg3.size
        clear C1 own3 hg3 hs3 x0 x1 y0 y1 s0 s1
        go_wp2_with fail
        refine (IHk.out (b + pw (l + 1)) (l + 1) A3 c3 zs w3 HL1.out HV2.out (by omega) O3.out LN.out).mono ?_
        rintro e4 w5 ⟨A5, c5, rfl, own5, hg5, hs5⟩
        have O5 := Lib.hid own5
        have G5 := Lib.hid (And.intro hg5 hs5)
        clear own5 hg5 hs5 y2 y3 s2 s3
        go_wp2
        go_ret
        rw [HT.out, ← hpk.out, ← List.append_assoc, HZ.out]
        refine ⟨A5, c5, by rw [List.length_append]; rfl, O5.out, ?_, ?_⟩
        · exact below_then HB (grownBy_chain G3.out.1 G5.out.1 G3.out.2)
        · exact (G3.out.2.trans G5.out.2 hz3).later HB2

theorem coverBelow_any (lo hi : Int) (base : Nat) : ∀ k, CbSays lo hi base k
  | 0 => coverBelow_step lo hi base 0 fun k' h => by omega
  | k + 1 => coverBelow_step lo hi base (k + 1) fun k' h => by
    obtain rfl : k = k' := by omega
    exact coverBelow_any lo hi base k

def coverV (lo hi : Int) : PS := if 0 ≤ lo ∧ lo ≤ hi ∧ hi ≤ 65535 then coverF lo hi else []
theorem coverV_length (lo hi : Int) : (coverV lo hi).length ≤ 30 := by unfold coverV; split; exact coverF_length lo hi; simp

set_option maxHeartbeats 1000000 in
theorem iCoverSpan_any (lo hi : Int) (w : World) : Calls Try.prog 21 #[.agg #[.int .i64 lo, .int .i64 hi]] w (Owns 24 (coverV lo hi) w) := by
  by_cases c : 0 ≤ lo ∧ lo ≤ hi ∧ hi ≤ 65535
  · have HC := Lib.hid (show coverV lo hi = coverF lo hi from if_pos c)
    have hlen := coverF_length lo hi
    obtain ⟨c1, c2, c3⟩ := c
    have CB := Lib.hid (fun W (H : w.heap.size ≤ W.heap.size) => coverBelow_any lo hi w.heap.size 16 0 0 none 0 [] W rfl (by decide) H ⟨rfl, .inl ⟨rfl, rfl⟩⟩ (by have : trieF lo hi 16 0 = coverF lo hi := rfl; rw [this]; simp; omega))
    go_enter Try.func21, Try.ntmps21
    go_wp2_with fail
    refine (CB.out _ (by simp)).mono ?_
    rintro e w1 ⟨A1, c1, rfl, own1, hg1, -⟩
    have O1 := Lib.hid own1
    have hb := (below_one w (.cells #[.int .i64 lo, .int .i64 hi] 33)).grown hg1 (by simp) (fun k hk => by cases hk)
    clear own1 hg1
    go_wp2
    go_ret
    rw [HC.out]
    exact ⟨A1, c1, rfl, O1.out, hb⟩
  · have HC := Lib.hid (show coverV lo hi = [] from if_neg c)
    rcases Int.lt_or_le lo 0 with c1 | c1
    · clear c
      go_enter Try.func21, Try.ntmps21
      go_wp2
      go_ret
      rw [HC.out]
      exact owns_nil (below_one _ _)
    · rcases Int.lt_or_le hi lo with c2 | c2
      · clear c
        go_enter Try.func21, Try.ntmps21
        go_wp2
        go_ret
        rw [HC.out]
        exact owns_nil (below_one _ _)
      · have c3 : 65535 < hi := by omega
        clear c
        go_enter Try.func21, Try.ntmps21
        go_wp2
        go_ret
        rw [HC.out]
        exact owns_nil (below_one _ _)
end Go.Proofs.Ytcodmhndigkplaa
