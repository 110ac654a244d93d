/-
  WALKS: (impl.Test).spans, impl.TestSpans, spec.TestSpans: 'tspV'.
-/
import Derived.Test.YtoapnjlpmjcloaaDoorTspP
import Derived.Test.YtoapnjlpmjcloaaDoorOther
import Derived.Test.YtoapnjlpmjcloaaDoorApp
namespace Go.Proofs.YtoapnjlpmjcloaaDoor
open Go.ChangeShapes Go.WideShapes Go.ChangeAt Go.RowKit Go.Sort Pf

theorem owns_none {w w1 : World} {t : TypeId} (H : Below w.heap.size w w1) : Owns t [] w (.returned (.slice none 0 0)) w1 := ⟨none, 0, rfl, ⟨rfl, .inl ⟨rfl, rfl⟩⟩, H⟩
theorem ob_none (b : Nat) : (Value.slice none 0 0).ownBlock ≠ some b := by
  intro e; simp [Value.ownBlock] at e
theorem tsp_not {fl lo hi : Int} (h : tsB fl lo hi = true) : tspV fl lo hi true = (if 0 < lo then [(0, lo - 1)] else []) ++ (if hi < topF fl then [(hi + 1, topF fl)] else []) := by
  unfold tspV
  rw [if_pos h, if_pos rfl]
  simp only [otherF]
  by_cases h1 : 0 < lo
  · by_cases h2 : hi < topF fl
    · rw [if_pos h1, if_pos h1, if_pos (by omega), if_pos h2]; rfl
    · rw [if_pos h1, if_pos h1, if_neg (by omega), if_neg h2]; rfl
  · by_cases h2 : hi < topF fl
    · rw [if_neg h1, if_neg h1, if_pos (by omega), if_pos h2]; rfl
    · rw [if_neg h1, if_neg h1, if_neg (by omega), if_neg h2]; rfl
theorem tsp_yes {fl lo hi : Int} (h : tsB fl lo hi = true) : tspV fl lo hi false = [(lo, hi)] := by
  unfold tspV; rw [if_pos h]; rfl
theorem tsp_bad {fl lo hi : Int} {nt : Bool} (h : tsB fl lo hi = false) : tspV fl lo hi nt = [] := by
  unfold tspV; rw [h]; rfl

set_option maxRecDepth 20000 in
set_option maxHeartbeats 2000000 in
theorem spans_any (fl lo hi : Int) (nt : Bool) (w : World) (h : tsB fl lo hi = true) (hT : Tab w) :
    Calls Tryd.prog 75 #[.agg #[.int .i64 fl, .int .i64 lo, .int .i64 hi, .bool nt]] w (Owns 87 (tspV fl lo hi nt) w) := by
  obtain ⟨⟨k0, k1⟩, ⟨h0, h1⟩, h2⟩ := tsB_iff.1 h
  obtain ⟨t0, t1⟩ := topF_bd k0 k1
  have hb := Lib.hid (below_one w (.cells #[.int .i64 fl, .int .i64 lo, .int .i64 hi, .bool nt] 32))
  have CT := fun W (hW : Below w.heap.size w W) => iFieldTop_any fl W (hT.below hW)
  cases nt with
  | false =>
    rw [tsp_yes h]
    clear h hT CT
    have own0 := World.ownsRow_lit (e := 87) (size := 2) (w.alloc (.cells #[.int .i64 fl, .int .i64 lo, .int .i64 hi, .bool false] 32)) #[.int .i64 lo, .int .i64 hi] 1 (Nat.le_refl _) (by unfold maxLen; omega) rfl
    rw [World.size_alloc] at own0
    have HO := Lib.hid own0
    clear own0
    go_enter Tryd.func75, Tryd.ntmps75
    go_wp2
    go_ret
    exact ⟨_, _, rfl, own_mono HO.out (Nat.le_succ _), hb.out.alloc hb.out.size _⟩
  | true =>
    rw [tsp_not h]
    obtain ⟨tp, htp⟩ : ∃ tp, topF fl = tp := ⟨_, rfl⟩
    rw [htp] at CT h2 t0 t1 ⊢
    have CT := Lib.hid CT
    obtain ⟨i0, hi0, hz0, hz1, hz2⟩ := info_parts infoSpanE
    have b0 : (w.alloc (.cells #[.int .i64 fl, .int .i64 lo, .int .i64 hi, .bool true] 32)).cell? ⟨w.heap.size, 0, none⟩ = some (.int .i64 fl) := by go_cell
    have b2 : (w.alloc (.cells #[.int .i64 fl, .int .i64 lo, .int .i64 hi, .bool true] 32)).cell? ⟨w.heap.size, 2, none⟩ = some (.int .i64 hi) := by go_cell
    have B0 := Lib.hid b0
    have B2 := Lib.hid b2
    clear h hT htp b0 b2
    have ownn : (w.alloc (.cells #[.int .i64 fl, .int .i64 lo, .int .i64 hi, .bool true] 32)).ownsRow w.heap.size 87 2 (.slice none 0 0) 0 (flat []) := ⟨rfl, .inl ⟨rfl, rfl⟩⟩
    have HN := Lib.hid ownn
    clear ownn
    by_cases g1 : 0 < lo
    · rw [if_pos g1]
      by_cases g2 : hi < tp
      · rw [if_pos g2]
        go_enter Tryd.func75, Tryd.ntmps75
        go_wp2_with (first
          | (at_builtin; refine wpList_append_own _ rfl (.tmp 17) (.tmp 22) 71 rfl w.heap.size 87 i0 _ 2 16 Tryd.underlying71 hi0 hz0 hz1 hz2 rfl (by decide) _ _ _ rfl (HN.out.alloc _) ⟨w.heap.size + 1, 0, none⟩ 1 1 [.int .i64 0, .int .i64 (lo - 1)] rfl rfl (news_at (by simp) _ _) (news_one _ _) (by unfold maxLen; omega) (by omega) (by simp; omega) ?_; intro v1 w1 own1 hg1 _; have HO1 := Lib.hid own1; have HG1 := Lib.hid hg1; have c0 := grown_cell HG1.out (keepCell (below_one _ _) B0.out) (ob_none _); have c2 := grown_cell HG1.out (keepCell (below_one _ _) B2.out) (ob_none _); clear own1 hg1)
          | fail)
        have H3 := Lib.hid ((hb.out.alloc hb.out.size (.cells #[.int .i64 0, .int .i64 (lo - 1)] 87)).grown HG1.out (by simp; omega) (fun k hk => by cases hk))
        obtain ⟨A1, d1, hv1⟩ := own_slice HO1.out
        subst hv1
        refine (CT.out _ H3.out).mono ?_
        rintro e w' ⟨rfl, hw⟩
        have hw2 := hw.symm
        subst hw2
        go_wp2_with (first
          | (at_builtin; refine wpList_append_own _ rfl (.tmp 31) (.tmp 37) 71 rfl w.heap.size 87 i0 _ 2 16 Tryd.underlying71 hi0 hz0 hz1 hz2 rfl (by decide) _ _ _ rfl (HO1.out.alloc _) ⟨w1.heap.size, 0, none⟩ 1 1 [.int .i64 (hi + 1), .int .i64 tp] rfl rfl (news_at rfl _ _) (news_one _ _) (by unfold maxLen; omega) (by omega) (by have := H3.out.size; simp; omega) ?_; intro v2 w2 own2 hg2 _; have HO2 := Lib.hid own2; have HG2 := Lib.hid hg2; clear own2 hg2)
          | fail)
        have H4 := Lib.hid ((H3.out.alloc H3.out.size (.cells #[.int .i64 (hi + 1), .int .i64 tp] 87)).grown HG2.out (by have := H3.out.size; simp at *; omega) (fun k hk => (HO1.out.lt k hk).1))
        obtain ⟨A2, d2, hv2⟩ := own_slice HO2.out
        subst hv2
        go_ret
        exact ⟨A2, d2, rfl, HO2.out, H4.out⟩
      · rw [if_neg g2]
        go_enter Tryd.func75, Tryd.ntmps75
        go_wp2_with (first
          | (at_builtin; refine wpList_append_own _ rfl (.tmp 17) (.tmp 22) 71 rfl w.heap.size 87 i0 _ 2 16 Tryd.underlying71 hi0 hz0 hz1 hz2 rfl (by decide) _ _ _ rfl (HN.out.alloc _) ⟨w.heap.size + 1, 0, none⟩ 1 1 [.int .i64 0, .int .i64 (lo - 1)] rfl rfl (news_at (by simp) _ _) (news_one _ _) (by unfold maxLen; omega) (by omega) (by simp; omega) ?_; intro v1 w1 own1 hg1 _; have HO1 := Lib.hid own1; have HG1 := Lib.hid hg1; have c0 := grown_cell HG1.out (keepCell (below_one _ _) B0.out) (ob_none _); have c2 := grown_cell HG1.out (keepCell (below_one _ _) B2.out) (ob_none _); clear own1 hg1)
          | fail)
        have H3 := Lib.hid ((hb.out.alloc hb.out.size (.cells #[.int .i64 0, .int .i64 (lo - 1)] 87)).grown HG1.out (by simp; omega) (fun k hk => by cases hk))
        obtain ⟨A1, d1, hv1⟩ := own_slice HO1.out
        subst hv1
        refine (CT.out _ H3.out).mono ?_
        rintro e w' ⟨rfl, hw⟩
        have hw2 := hw.symm
        subst hw2
        go_wp2
        go_ret
        exact ⟨A1, d1, rfl, HO1.out, H3.out⟩
    · rw [if_neg g1]
      by_cases g2 : hi < tp
      · rw [if_pos g2]
        go_enter Tryd.func75, Tryd.ntmps75
        go_wp2_with fail
        have H3 := Lib.hid hb.out
        refine (CT.out _ H3.out).mono ?_
        rintro e w' ⟨rfl, hw⟩
        have hw2 := hw.symm
        subst hw2
        go_wp2_with (first
          | (at_builtin; refine wpList_append_own _ rfl (.tmp 31) (.tmp 37) 71 rfl w.heap.size 87 i0 _ 2 16 Tryd.underlying71 hi0 hz0 hz1 hz2 rfl (by decide) _ _ _ rfl (HN.out.alloc _) ⟨w.heap.size + 1, 0, none⟩ 1 1 [.int .i64 (hi + 1), .int .i64 tp] rfl rfl (news_at (by simp) _ _) (news_one _ _) (by unfold maxLen; omega) (by omega) (by simp; omega) ?_; intro v2 w2 own2 hg2 _; have HO2 := Lib.hid own2; have HG2 := Lib.hid hg2; clear own2 hg2)
          | fail)
        have H4 := Lib.hid ((H3.out.alloc H3.out.size (.cells #[.int .i64 (hi + 1), .int .i64 tp] 87)).grown HG2.out (by have := H3.out.size; simp at *; omega) (fun k hk => by cases hk))
        obtain ⟨A2, d2, hv2⟩ := own_slice HO2.out
        subst hv2
        go_ret
        exact ⟨A2, d2, rfl, HO2.out, H4.out⟩
      · rw [if_neg g2]
        go_enter Tryd.func75, Tryd.ntmps75
        go_wp2_with fail
        have H3 := Lib.hid hb.out
        refine (CT.out _ H3.out).mono ?_
        rintro e w' ⟨rfl, hw⟩
        have hw2 := hw.symm
        subst hw2
        go_wp2
        go_ret
        exact owns_none H3.out
end Go.Proofs.YtoapnjlpmjcloaaDoor
