/-
  WALK: spec.l20Span: it answers some range.
-/
import Derived.Test.YtcodmhndigkplaaDrSt
namespace Go.Proofs.Ytcodmhndigkplaa
open Go.ChangeShapes Go.WideShapes Go.ChangeAt Go.RowKit Go.Sort Pf

set_option linter.unusedSimpArgs false in
set_option maxHeartbeats 2000000 in
theorem drSpan_any (g f : Nat) (top n : Int) (w : World) (ht0 : 0 ≤ top) (ht1 : top ≤ 65535) (hn0 : 0 ≤ n) (hn1 : n ≤ 1000) (h : Rdr w g (f + 8)) :
    Calls Try.prog 60 #[.pointer (some ⟨g, 0, none⟩), .int .i64 top, .int .i64 n] w (DrewSpan g f w) := by
  have hgw := h.lt
  have HR := Lib.hid h
  clear h
  go_enter Try.func60, Try.ntmps60
  go_upto_region 1 with fail
  go_cut [7] (fun s7 wx => ∃ (S : Nat) (lo : Int), s7 = .pointer (some ⟨S, 0, none⟩) ∧ 0 ≤ lo ∧ lo ≤ 255 ∧ SpSt w g (f + 7) w.heap.size S lo 0 wx)
  case first =>
    go_wp2_with fail
    all_goals
      refine (pick_any g (f + 8) (f + 7) _ _ (HR.out.alloc _) rfl).mono ?_
      intro e w1 hp
      obtain ⟨v, rfl, hv0, hv1, hg1, hr1⟩ := hp
      have hz := hg1.size
      simp at hz
      have ne : (some g : Option Nat) ≠ some w.heap.size := by simp; omega
      have b0 : w1.cell? ⟨w.heap.size, 0, none⟩ = some (.int .i64 0) := grown_cell hg1 (by go_cell) ne
      have b1 : w1.cell? ⟨w.heap.size, 1, none⟩ = some (.int .i64 0) := grown_cell hg1 (by go_cell) ne
      have b2 : w1.frozen? ⟨w.heap.size, 0, none⟩ = false := grown_free hg1 (v := .int .i64 0) (by go_cell) (by go_simp) ne
      have b3 : w1.frozen? ⟨w.heap.size, 1, none⟩ = false := grown_free hg1 (v := .int .i64 0) (by go_cell) (by go_simp) ne
      have HG := Lib.hid hg1
      clear hg1
      go_wp2
      go_meet
      refine ⟨w1.heap.size, v, rfl, hv0, by omega, ?_, hr1.alloc _, Nat.le_refl _, by omega, by simp, ?_, ?_, ?_, ?_, by go_cell, by go_cell, by go_simp, by go_simp⟩
      · exact grownBy_trans (grownBy_trans (below_grown (below_one w _)) HG.out) (below_grown (below_one w1 _))
      · exact keepCell (below_one w1 _) b0
      · exact keepCell (below_one w1 _) b1
      · exact keepFree (below_one w1 _) b0 b2
      · exact keepFree (below_one w1 _) b1 b3
  case rest =>
    obtain ⟨S, lo, rfl, hlo0, hlo1, st⟩ := hcut
    clear HR
    go_upto_region 2 with fail
    go_cut [20] (fun s20 wx => ∃ c : Bool, s20 = .bool c ∧ SpSt w g (f + 6) w.heap.size S lo 0 wx)
    case first =>
      by_cases htop : 255 < top
      · go_wp2_with fail
        refine (pick_any g (f + 7) (f + 6) _ _ st.rdr rfl).mono ?_
        intro e w1 hp
        obtain ⟨v, rfl, hv0, hv1, hg1, hr1⟩ := hp
        have ST := Lib.hid (st.pick hg1 hr1 hgw)
        clear hg1 hr1
        go_wp2
        go_meet
        exact ⟨_, rfl, ST.out⟩
      · have htop' : top ≤ 255 := by omega
        clear htop
        go_wp2
        go_meet
        exact ⟨false, rfl, st.less (by omega)⟩
    case rest =>
      obtain ⟨c, rfl, st⟩ := hcut
      go_upto_if 20 with fail
      go_cut [] (fun wx => ∃ lo : Int, 0 ≤ lo ∧ lo ≤ 65535 ∧ SpSt w g (f + 5) w.heap.size S lo 0 wx)
      case first =>
        cases c with
        | true =>
          have ST : SpSt w g (f + 6) w.heap.size S lo 0 wc.drew := st.drewN 1
          have c0 := st.c0
          have c2 := st.c2
          have R1 := ST.rdr
          have w1 : IntKind.i64.wrap (lo * 256) = lo * 256 := IntWalk.i64_in _ (by omega)
          clear st
          go_wp2_with fail
          go_region_with (go_at_call 59; ((with_reducible refine (pick_any g _ (f + 5) _ _ (by with_reducible assumption) (by omega)).mono ?_); intro e w2 hp; obtain ⟨v, rfl, hv0, hv1, hg1, hr1⟩ := hp; have ST2 := SpSt.pick (by with_reducible assumption) hg1 hr1 hgw; have d0 := ST2.c0; have d1 := ST2.c2; have w2 : IntKind.i64.wrap (lo * 256 + v) = lo * 256 + v := IntWalk.i64_in _ (by omega); clear hg1 hr1))
          all_goals
            clear w1 w2
            go_wp2
            all_goals
              go_meet
              exact ⟨_, by first | (split <;> omega) | omega, by first | (split <;> omega) | omega, ST2.setLo hgw _⟩
        | false =>
          go_wp2
          go_meet
          exact ⟨lo, hlo0, by omega, st.less (by omega)⟩
      case rest =>
        obtain ⟨lo, hlo0, hlo1, st⟩ := hcut
        go_upto_region 4 with fail
        go_cut [] (fun wx => ∃ hi : Int, SpSt w g (f + 2) w.heap.size S lo hi wx)
        case first =>
          have ST : SpSt w g (f + 5) w.heap.size S lo 0 wc.drew := st.drewN 1
          have c0 := ST.c0
          have c3 := ST.c3
          have c1 := ST.c1
          have s5 := ST.b.1
          have R1 := ST.rdr
          clear st
          go_wp2_with fail
          refine wp_region_held_drew (S := fun w' => w'.cell? ⟨S, 0, none⟩ = some (.int .i64 lo)) (by kernel_rfl) (by (try dsimp only); exact c0) (fun hHeld => ?_)
          generalize wc.drew = W at ST R1 c0 c1 c3 s5 hHeld ⊢
          refine wpAnyH_take (i := 0) (v := ?_) rfl (by kernel_rfl) (by kernel_rfl) (by kernel_rfl) (fun _ _ _ h => h) (Or.inl ⟨by rfl, ?_⟩) (by assumption) ?_
          rotate_left
          · intro w' hSw; (try dsimp only at hSw); go_simp; try with_reducible rfl
          (try simp only [List.getElem_toArray, List.getElem_cons_succ, List.getElem_cons_zero, Act.put, List.setIfInBounds_toArray, List.set_cons_zero, List.set_cons_succ])
          refine wpAnyH_take (i := 1) (v := ?_) rfl (by kernel_rfl) (by kernel_rfl) (by kernel_rfl) (fun _ _ _ h => h) (Or.inl ⟨by rfl, ?_⟩) (by assumption) ?_
          rotate_left
          · intro w' hSw; (try dsimp only at hSw); go_simp; try with_reducible rfl
          (try simp only [List.getElem_toArray, List.getElem_cons_succ, List.getElem_cons_zero, Act.put, List.setIfInBounds_toArray, List.set_cons_zero, List.set_cons_succ])
          refine wpAnyH_take (i := 2) (v := ?_) rfl (by kernel_rfl) (by kernel_rfl) (by kernel_rfl) (fun _ _ _ h => h) (Or.inl ⟨by rfl, ?_⟩) (by assumption) ?_
          rotate_left
          · intro w' hSw; (try dsimp only at hSw); go_simp; try with_reducible rfl
          (try simp only [List.getElem_toArray, List.getElem_cons_succ, List.getElem_cons_zero, Act.put, List.setIfInBounds_toArray, List.set_cons_zero, List.set_cons_succ])
          refine wpAnyH_take (i := 3) (v := ?_) rfl (by kernel_rfl) (by kernel_rfl) (by kernel_rfl) (fun _ _ _ h => h) (Or.inl ⟨by rfl, ?_⟩) (by assumption) ?_
          rotate_left
          · intro w' hSw; (try dsimp only at hSw); go_simp; try with_reducible rfl
          (try simp only [List.getElem_toArray, List.getElem_cons_succ, List.getElem_cons_zero, Act.put, List.setIfInBounds_toArray, List.set_cons_zero, List.set_cons_succ])
          refine wpAnyH_take (i := 5) (v := ?_) rfl (by kernel_rfl) (by kernel_rfl) (by kernel_rfl) (fun _ _ _ h => h) (Or.inl ⟨by rfl, ?_⟩) (by assumption) ?_
          rotate_left
          · intro w' hSw; (try dsimp only at hSw); go_simp; try with_reducible rfl
          (try simp only [List.getElem_toArray, List.getElem_cons_succ, List.getElem_cons_zero, Act.put, List.setIfInBounds_toArray, List.set_cons_zero, List.set_cons_succ])
          refine wpAnyH_take (i := 8) (v := ?_) rfl (by kernel_rfl) (by kernel_rfl) (by kernel_rfl) (fun _ _ _ h => h) (Or.inl ⟨by rfl, ?_⟩) (by assumption) ?_
          rotate_left
          · intro w' hSw; (try dsimp only at hSw); go_simp; try with_reducible rfl
          (try simp only [List.getElem_toArray, List.getElem_cons_succ, List.getElem_cons_zero, Act.put, List.setIfInBounds_toArray, List.set_cons_zero, List.set_cons_succ])
          refine wpAnyH_ready (rs := [4]) (by kernel_rfl) (by simp) ?_
          refine AllReadyH.cons rfl (fun K hK => ?_) AllReadyH.nil
          go_simp
          (go_at_call 59; (with_reducible refine (pick_any g _ (f + 4) 4 _ (by with_reducible first | assumption | exact Rdr.alloc (by assumption) _) (by omega)).mono ?_); intro e w3 hp; obtain ⟨v, rfl, hv0, hv1, hg1, hr1⟩ := hp; have ST2 := SpSt.pick (by with_reducible first | assumption | exact SpSt.alloc (by assumption) _) hg1 hr1 hgw; have d0 := ST2.c0; have d1 := ST2.c1; have d2 := ST2.c3; obtain ⟨d3, e0, e1, e2, e3⟩ := ST2.b; have d4 := Nat.lt_trans ST2.out.2.2.2.1 ST2.b.1; clear hg1)
          refine hK.out _ _ (by (try dsimp only); (first | assumption | exact set1_keep (by assumption) | exact keepCell (below_one _ _) (set1_keep (by assumption)) | go_keep)) (fun hHeld => ?_)
          clear hK K
          (try simp only [List.getElem_toArray, List.getElem_cons_succ, List.getElem_cons_zero, Act.put, List.setIfInBounds_toArray, List.set_cons_zero, List.set_cons_succ])
          refine wpAnyH_ready (rs := [6]) (by kernel_rfl) (by simp) ?_
          refine AllReadyH.cons rfl (fun K hK => ?_) AllReadyH.nil
          go_simp
          (go_at_call 59; (with_reducible refine (pick_any g _ (f + 3) 256 _ (by with_reducible first | assumption | exact Rdr.alloc (by assumption) _) (by omega)).mono ?_); intro e w3 hp; obtain ⟨v, rfl, hv0, hv1, hg1, hr1⟩ := hp; have ST2 := SpSt.pick (by with_reducible first | assumption | exact SpSt.alloc (by assumption) _) hg1 hr1 hgw; have d0 := ST2.c0; have d1 := ST2.c1; have d2 := ST2.c3; obtain ⟨d3, e0, e1, e2, e3⟩ := ST2.b; have d4 := Nat.lt_trans ST2.out.2.2.2.1 ST2.b.1; clear hg1)
          refine hK.out _ _ (by (try dsimp only); (first | assumption | exact set1_keep (by assumption) | exact keepCell (below_one _ _) (set1_keep (by assumption)) | go_keep)) (fun hHeld => ?_)
          clear hK K
          (try simp only [List.getElem_toArray, List.getElem_cons_succ, List.getElem_cons_zero, Act.put, List.setIfInBounds_toArray, List.set_cons_zero, List.set_cons_succ])
          refine wpAnyH_ready (rs := [7, 9]) (by kernel_rfl) (by simp) ?_
          refine AllReadyH.cons rfl (fun K hK => ?_) (AllReadyH.cons rfl (fun K hK => ?_) (AllReadyH.nil))
          · go_simp
            refine hK.out _ _ (by (try dsimp only); (first | assumption | exact set1_keep (by assumption) | exact keepCell (below_one _ _) (set1_keep (by assumption)) | go_keep)) (fun hHeld => ?_)
            clear hK K
            (try simp only [List.getElem_toArray, List.getElem_cons_succ, List.getElem_cons_zero, Act.put, List.setIfInBounds_toArray, List.set_cons_zero, List.set_cons_succ])
            refine wpAnyH_ready (rs := [9]) (by kernel_rfl) (by simp) ?_
            refine AllReadyH.cons rfl (fun K hK => ?_) AllReadyH.nil
            go_simp
            (go_at_call 59; (with_reducible refine (pick_any g _ (f + 2) 4 _ (by with_reducible first | assumption | exact Rdr.alloc (by assumption) _) (by omega)).mono ?_); intro e w3 hp; obtain ⟨v, rfl, hv0, hv1, hg1, hr1⟩ := picked_lt (by omega) hp; clear hp; have ST2 := SpSt.pick (by with_reducible first | assumption | exact SpSt.alloc (by assumption) _) hg1 hr1 hgw; have d0 := ST2.c0; have d1 := ST2.c1; have d2 := ST2.c3; obtain ⟨d3, e0, e1, e2, e3⟩ := ST2.b; have d4 := Nat.lt_trans ST2.out.2.2.2.1 ST2.b.1; obtain ⟨k, rfl⟩ := Int.eq_ofNat_of_zero_le hv0; have hk4 : k < 4 := (by omega); (first | (with_reducible have hl := sel_new hg1 (by assumption) hk4) | have hsel := sel4_get k hk4); clear hg1)
            refine hK.out _ _ (by (try dsimp only); (first | assumption | exact set1_keep (by assumption) | exact keepCell (below_one _ _) (set1_keep (by assumption)) | go_keep)) (fun hHeld => ?_)
            clear hK K
            (try simp only [List.getElem_toArray, List.getElem_cons_succ, List.getElem_cons_zero, Act.put, List.setIfInBounds_toArray, List.set_cons_zero, List.set_cons_succ])
            refine wpAnyH_take (i := 10) (v := ?_) rfl (by kernel_rfl) (by kernel_rfl) (by kernel_rfl) (fun _ _ _ h => h) (Or.inl ⟨by rfl, ?_⟩) (by assumption) ?_
            rotate_left
            · intro w' hSw; (try dsimp only at hSw); go_simp; try with_reducible rfl
            (try simp only [List.getElem_toArray, List.getElem_cons_succ, List.getElem_cons_zero, Act.put, List.setIfInBounds_toArray, List.set_cons_zero, List.set_cons_succ])
            refine wpAnyH_ready (rs := [11]) (by kernel_rfl) (by simp) ?_
            refine AllReadyH.cons rfl (fun K hK => ?_) AllReadyH.nil
            go_simp
            refine hK.out _ _ (by (try dsimp only); (first | assumption | exact set1_keep (by assumption) | exact keepCell (below_one _ _) (set1_keep (by assumption)) | go_keep)) (fun hHeld => ?_)
            clear hK K
            (try simp only [List.getElem_toArray, List.getElem_cons_succ, List.getElem_cons_zero, Act.put, List.setIfInBounds_toArray, List.set_cons_zero, List.set_cons_succ])
            refine wpAnyH_take (i := 12) (v := ?_) rfl (by kernel_rfl) (by kernel_rfl) (by kernel_rfl) (fun _ _ _ h => h) (Or.inl ⟨by rfl, ?_⟩) (by assumption) ?_
            rotate_left
            · intro w' hSw; (try dsimp only at hSw); go_simp; try with_reducible rfl
            (try simp only [List.getElem_toArray, List.getElem_cons_succ, List.getElem_cons_zero, Act.put, List.setIfInBounds_toArray, List.set_cons_zero, List.set_cons_succ])
            refine wpAnyH_ready (rs := [13]) (by kernel_rfl) (by simp) ?_
            refine AllReadyH.cons rfl (fun K hK => ?_) AllReadyH.nil
            go_simp
            refine hK.out _ _ (by (try dsimp only); (first | assumption | exact set1_keep (by assumption) | exact keepCell (below_one _ _) (set1_keep (by assumption)) | go_keep)) (fun hHeld => ?_)
            clear hK K
            (try simp only [List.getElem_toArray, List.getElem_cons_succ, List.getElem_cons_zero, Act.put, List.setIfInBounds_toArray, List.set_cons_zero, List.set_cons_succ])
            refine wpAnyH_take (i := 14) (v := ?_) rfl (by kernel_rfl) (by kernel_rfl) (by kernel_rfl) (fun _ _ _ h => h) (Or.inl ⟨by rfl, ?_⟩) (by assumption) ?_
            rotate_left
            · intro w' hSw; (try dsimp only at hSw); go_simp; try with_reducible rfl
            (try simp only [List.getElem_toArray, List.getElem_cons_succ, List.getElem_cons_zero, Act.put, List.setIfInBounds_toArray, List.set_cons_zero, List.set_cons_succ])
            refine wpAnyH_ready (rs := [15]) (by kernel_rfl) (by simp) ?_
            refine AllReadyH.cons rfl (fun K hK => ?_) AllReadyH.nil
            go_simp
            refine hK.out _ _ (by (try dsimp only); (first | assumption | exact set1_keep (by assumption) | exact keepCell (below_one _ _) (set1_keep (by assumption)) | go_keep)) (fun hHeld => ?_)
            clear hK K
            (try simp only [List.getElem_toArray, List.getElem_cons_succ, List.getElem_cons_zero, Act.put, List.setIfInBounds_toArray, List.set_cons_zero, List.set_cons_succ])
            refine wpAnyH_done (by kernel_rfl) ?_ _
            go_wp2
            all_goals
              go_meet
              first | exact ⟨_, ST2.setHi hgw _⟩ | exact ⟨_, (ST2.setHi hgw _).alloc _⟩
          · go_simp
            (go_at_call 59; (with_reducible refine (pick_any g _ (f + 2) 4 _ (by with_reducible first | assumption | exact Rdr.alloc (by assumption) _) (by omega)).mono ?_); intro e w3 hp; obtain ⟨v, rfl, hv0, hv1, hg1, hr1⟩ := picked_lt (by omega) hp; clear hp; have ST2 := SpSt.pick (by with_reducible first | assumption | exact SpSt.alloc (by assumption) _) hg1 hr1 hgw; have d0 := ST2.c0; have d1 := ST2.c1; have d2 := ST2.c3; obtain ⟨d3, e0, e1, e2, e3⟩ := ST2.b; have d4 := Nat.lt_trans ST2.out.2.2.2.1 ST2.b.1; obtain ⟨k, rfl⟩ := Int.eq_ofNat_of_zero_le hv0; have hk4 : k < 4 := (by omega); (first | (with_reducible have hl := sel_new hg1 (by assumption) hk4) | have hsel := sel4_get k hk4); clear hg1)
            refine hK.out _ _ (by (try dsimp only); (first | assumption | exact set1_keep (by assumption) | exact keepCell (below_one _ _) (set1_keep (by assumption)) | go_keep)) (fun hHeld => ?_)
            clear hK K
            (try simp only [List.getElem_toArray, List.getElem_cons_succ, List.getElem_cons_zero, Act.put, List.setIfInBounds_toArray, List.set_cons_zero, List.set_cons_succ])
            refine wpAnyH_ready (rs := [7]) (by kernel_rfl) (by simp) ?_
            refine AllReadyH.cons rfl (fun K hK => ?_) AllReadyH.nil
            go_simp
            refine hK.out _ _ (by (try dsimp only); (first | assumption | exact set1_keep (by assumption) | exact keepCell (below_one _ _) (set1_keep (by assumption)) | go_keep)) (fun hHeld => ?_)
            clear hK K
            (try simp only [List.getElem_toArray, List.getElem_cons_succ, List.getElem_cons_zero, Act.put, List.setIfInBounds_toArray, List.set_cons_zero, List.set_cons_succ])
            refine wpAnyH_take (i := 10) (v := ?_) rfl (by kernel_rfl) (by kernel_rfl) (by kernel_rfl) (fun _ _ _ h => h) (Or.inl ⟨by rfl, ?_⟩) (by assumption) ?_
            rotate_left
            · intro w' hSw; (try dsimp only at hSw); go_simp; try with_reducible rfl
            (try simp only [List.getElem_toArray, List.getElem_cons_succ, List.getElem_cons_zero, Act.put, List.setIfInBounds_toArray, List.set_cons_zero, List.set_cons_succ])
            refine wpAnyH_ready (rs := [11]) (by kernel_rfl) (by simp) ?_
            refine AllReadyH.cons rfl (fun K hK => ?_) AllReadyH.nil
            go_simp
            refine hK.out _ _ (by (try dsimp only); (first | assumption | exact set1_keep (by assumption) | exact keepCell (below_one _ _) (set1_keep (by assumption)) | go_keep)) (fun hHeld => ?_)
            clear hK K
            (try simp only [List.getElem_toArray, List.getElem_cons_succ, List.getElem_cons_zero, Act.put, List.setIfInBounds_toArray, List.set_cons_zero, List.set_cons_succ])
            refine wpAnyH_take (i := 12) (v := ?_) rfl (by kernel_rfl) (by kernel_rfl) (by kernel_rfl) (fun _ _ _ h => h) (Or.inl ⟨by rfl, ?_⟩) (by assumption) ?_
            rotate_left
            · intro w' hSw; (try dsimp only at hSw); go_simp; try with_reducible rfl
            (try simp only [List.getElem_toArray, List.getElem_cons_succ, List.getElem_cons_zero, Act.put, List.setIfInBounds_toArray, List.set_cons_zero, List.set_cons_succ])
            refine wpAnyH_ready (rs := [13]) (by kernel_rfl) (by simp) ?_
            refine AllReadyH.cons rfl (fun K hK => ?_) AllReadyH.nil
            go_simp
            refine hK.out _ _ (by (try dsimp only); (first | assumption | exact set1_keep (by assumption) | exact keepCell (below_one _ _) (set1_keep (by assumption)) | go_keep)) (fun hHeld => ?_)
            clear hK K
            (try simp only [List.getElem_toArray, List.getElem_cons_succ, List.getElem_cons_zero, Act.put, List.setIfInBounds_toArray, List.set_cons_zero, List.set_cons_succ])
            refine wpAnyH_take (i := 14) (v := ?_) rfl (by kernel_rfl) (by kernel_rfl) (by kernel_rfl) (fun _ _ _ h => h) (Or.inl ⟨by rfl, ?_⟩) (by assumption) ?_
            rotate_left
            · intro w' hSw; (try dsimp only at hSw); go_simp; try with_reducible rfl
            (try simp only [List.getElem_toArray, List.getElem_cons_succ, List.getElem_cons_zero, Act.put, List.setIfInBounds_toArray, List.set_cons_zero, List.set_cons_succ])
            refine wpAnyH_ready (rs := [15]) (by kernel_rfl) (by simp) ?_
            refine AllReadyH.cons rfl (fun K hK => ?_) AllReadyH.nil
            go_simp
            refine hK.out _ _ (by (try dsimp only); (first | assumption | exact set1_keep (by assumption) | exact keepCell (below_one _ _) (set1_keep (by assumption)) | go_keep)) (fun hHeld => ?_)
            clear hK K
            (try simp only [List.getElem_toArray, List.getElem_cons_succ, List.getElem_cons_zero, Act.put, List.setIfInBounds_toArray, List.set_cons_zero, List.set_cons_succ])
            refine wpAnyH_done (by kernel_rfl) ?_ _
            go_wp2
            all_goals
              go_meet
              first | exact ⟨_, ST2.setHi hgw _⟩ | exact ⟨_, (ST2.setHi hgw _).alloc _⟩
        case rest =>
          obtain ⟨hi, st⟩ := hcut
          have RR := Lib.hid st.rdr
          go_wp2_with fail
          refine (odd_any g (f + 1) n _ hn0 hn1 RR.out).mono ?_
          intro e w2 hp
          obtain ⟨c, rfl, hg1, hr1⟩ := hp
          have st2 := st.pick hg1 hr1 hgw
          clear hg1 hr1 RR st
          cases c with
          | false =>
            have st0 := st2
            have d0 := st2.c0
            have d1 := st2.c1
            obtain ⟨s5, b0, b1, b2, b3⟩ := st2.b
            have ST := Lib.hid st0
            clear st0 st2
            go_wp2
            refine bodyPost_ret (v := .agg #[.int .i64 lo, .int .i64 hi]) (by simp [results, Try.results60, go_sem, b0, b1]) rfl ⟨lo, hi, rfl, ?_, ?_⟩
            · exact grown_set (grown_set ST.out.out.1 (by simp)) (by simp)
            · exact ((ST.out.rdr.set (by simp only; omega)).set (by simp only; omega)).less (by omega)
          | true =>
            have ST : SpSt w g (f + 1) w.heap.size S lo hi w2.drew := st2.drewN 1
            have c0 := ST.c0
            have c1 := ST.c1
            obtain ⟨s5, b0, b1, b2, b3⟩ := ST.b
            have R1 := ST.rdr
            have hRS := ST.out.2.2.2.1
            clear st2
            go_wp2_with fail
            refine wp_region_held_drew (S := fun w' => w'.cell? ⟨S, 0, none⟩ = some (.int .i64 lo) ∧ w'.cell? ⟨S, 1, none⟩ = some (.int .i64 hi)) (by kernel_rfl) (by (try dsimp only); exact ⟨c0, c1⟩) (fun hHeld => ?_)
            generalize w2.drew = W at ST R1 c0 c1 s5 b0 b1 b2 b3 hHeld ⊢
            refine wpAnyH_take (i := 0) (v := ?_) rfl (by kernel_rfl) (by kernel_rfl) (by kernel_rfl) (fun _ _ _ h => h) (Or.inl ⟨by rfl, ?_⟩) (by assumption) ?_
            rotate_left
            · intro w' hSw; (try dsimp only at hSw); go_simp; try with_reducible rfl
            (try simp only [List.getElem_toArray, List.getElem_cons_succ, List.getElem_cons_zero, Act.put, List.setIfInBounds_toArray, List.set_cons_zero, List.set_cons_succ])
            refine wpAnyH_take (i := 1) (v := ?_) rfl (by kernel_rfl) (by kernel_rfl) (by kernel_rfl) (fun _ _ _ h => h) (Or.inl ⟨by rfl, ?_⟩) (by assumption) ?_
            rotate_left
            · intro w' hSw; (try dsimp only at hSw); go_simp; try with_reducible rfl
            (try simp only [List.getElem_toArray, List.getElem_cons_succ, List.getElem_cons_zero, Act.put, List.setIfInBounds_toArray, List.set_cons_zero, List.set_cons_succ])
            refine wpAnyH_take (i := 2) (v := ?_) rfl (by kernel_rfl) (by kernel_rfl) (by kernel_rfl) (fun _ _ _ h => h) (Or.inl ⟨by rfl, ?_⟩) (by assumption) ?_
            rotate_left
            · intro w' hSw; (try dsimp only at hSw); go_simp; try with_reducible rfl
            (try simp only [List.getElem_toArray, List.getElem_cons_succ, List.getElem_cons_zero, Act.put, List.setIfInBounds_toArray, List.set_cons_zero, List.set_cons_succ])
            refine wpAnyH_take (i := 3) (v := ?_) rfl (by kernel_rfl) (by kernel_rfl) (by kernel_rfl) (fun _ _ _ h => h) (Or.inl ⟨by rfl, ?_⟩) (by assumption) ?_
            rotate_left
            · intro w' hSw; (try dsimp only at hSw); go_simp; try with_reducible rfl
            (try simp only [List.getElem_toArray, List.getElem_cons_succ, List.getElem_cons_zero, Act.put, List.setIfInBounds_toArray, List.set_cons_zero, List.set_cons_succ])
            refine wpAnyH_take (i := 4) (v := ?_) rfl (by kernel_rfl) (by kernel_rfl) (by kernel_rfl) (fun _ _ _ h => h) (Or.inl ⟨by rfl, ?_⟩) (by assumption) ?_
            rotate_left
            · intro w' hSw; (try dsimp only at hSw); go_simp; try with_reducible rfl
            (try simp only [List.getElem_toArray, List.getElem_cons_succ, List.getElem_cons_zero, Act.put, List.setIfInBounds_toArray, List.set_cons_zero, List.set_cons_succ])
            refine wpAnyH_take (i := 5) (v := ?_) rfl (by kernel_rfl) (by kernel_rfl) (by kernel_rfl) (fun _ _ _ h => h) (Or.inl ⟨by rfl, ?_⟩) (by assumption) ?_
            rotate_left
            · intro w' hSw; (try dsimp only at hSw); go_simp; try with_reducible rfl
            (try simp only [List.getElem_toArray, List.getElem_cons_succ, List.getElem_cons_zero, Act.put, List.setIfInBounds_toArray, List.set_cons_zero, List.set_cons_succ])
            refine wpAnyH_take (i := 6) (v := ?_) rfl (by kernel_rfl) (by kernel_rfl) (by kernel_rfl) (fun _ _ _ h => h) (Or.inl ⟨by rfl, ?_⟩) (by assumption) ?_
            rotate_left
            · intro w' hSw; (try dsimp only at hSw); go_simp; try with_reducible rfl
            (try simp only [List.getElem_toArray, List.getElem_cons_succ, List.getElem_cons_zero, Act.put, List.setIfInBounds_toArray, List.set_cons_zero, List.set_cons_succ])
            refine wpAnyH_take (i := 7) (v := ?_) rfl (by kernel_rfl) (by kernel_rfl) (by kernel_rfl) (fun _ _ _ h => h) (Or.inl ⟨by rfl, ?_⟩) (by assumption) ?_
            rotate_left
            · intro w' hSw; (try dsimp only at hSw); go_simp; try with_reducible rfl
            (try simp only [List.getElem_toArray, List.getElem_cons_succ, List.getElem_cons_zero, Act.put, List.setIfInBounds_toArray, List.set_cons_zero, List.set_cons_succ])
            refine wpAnyH_take (i := 8) (v := ?_) rfl (by kernel_rfl) (by kernel_rfl) (by kernel_rfl) (fun _ _ _ h => h) (Or.inl ⟨by rfl, ?_⟩) (by assumption) ?_
            rotate_left
            · intro w' hSw; (try dsimp only at hSw); go_simp; try with_reducible rfl
            (try simp only [List.getElem_toArray, List.getElem_cons_succ, List.getElem_cons_zero, Act.put, List.setIfInBounds_toArray, List.set_cons_zero, List.set_cons_succ])
            refine wpAnyH_take (i := 9) (v := ?_) rfl (by kernel_rfl) (by kernel_rfl) (by kernel_rfl) (fun _ _ _ h => h) (Or.inl ⟨by rfl, ?_⟩) (by assumption) ?_
            rotate_left
            · intro w' hSw; (try dsimp only at hSw); go_simp; try with_reducible rfl
            (try simp only [List.getElem_toArray, List.getElem_cons_succ, List.getElem_cons_zero, Act.put, List.setIfInBounds_toArray, List.set_cons_zero, List.set_cons_succ])
            refine wpAnyH_take (i := 10) (v := ?_) rfl (by kernel_rfl) (by kernel_rfl) (by kernel_rfl) (fun _ _ _ h => h) (Or.inl ⟨by rfl, ?_⟩) (by assumption) ?_
            rotate_left
            · intro w' hSw; (try dsimp only at hSw); go_simp; try with_reducible rfl
            (try simp only [List.getElem_toArray, List.getElem_cons_succ, List.getElem_cons_zero, Act.put, List.setIfInBounds_toArray, List.set_cons_zero, List.set_cons_succ])
            refine wpAnyH_take (i := 11) (v := ?_) rfl (by kernel_rfl) (by kernel_rfl) (by kernel_rfl) (fun _ _ _ h => h) (Or.inl ⟨by rfl, ?_⟩) (by assumption) ?_
            rotate_left
            · intro w' hSw; (try dsimp only at hSw); go_simp; try with_reducible rfl
            (try simp only [List.getElem_toArray, List.getElem_cons_succ, List.getElem_cons_zero, Act.put, List.setIfInBounds_toArray, List.set_cons_zero, List.set_cons_succ])
            refine wpAnyH_take (i := 12) (v := ?_) rfl (by kernel_rfl) (by kernel_rfl) (by kernel_rfl) (fun _ _ _ h => h) (Or.inl ⟨by rfl, ?_⟩) (by assumption) ?_
            rotate_left
            · intro w' hSw; (try dsimp only at hSw); go_simp; try with_reducible rfl
            (try simp only [List.getElem_toArray, List.getElem_cons_succ, List.getElem_cons_zero, Act.put, List.setIfInBounds_toArray, List.set_cons_zero, List.set_cons_succ])
            refine wpAnyH_take (i := 13) (v := ?_) rfl (by kernel_rfl) (by kernel_rfl) (by kernel_rfl) (fun _ _ _ h => h) (Or.inl ⟨by rfl, ?_⟩) (by assumption) ?_
            rotate_left
            · intro w' hSw; (try dsimp only at hSw); go_simp; try with_reducible rfl
            (try simp only [List.getElem_toArray, List.getElem_cons_succ, List.getElem_cons_zero, Act.put, List.setIfInBounds_toArray, List.set_cons_zero, List.set_cons_succ])
            refine wpAnyH_take (i := 15) (v := ?_) rfl (by kernel_rfl) (by kernel_rfl) (by kernel_rfl) (fun _ _ _ h => h) (Or.inl ⟨by rfl, ?_⟩) (by assumption) ?_
            rotate_left
            · intro w' hSw; (try dsimp only at hSw); go_simp; try with_reducible rfl
            (try simp only [List.getElem_toArray, List.getElem_cons_succ, List.getElem_cons_zero, Act.put, List.setIfInBounds_toArray, List.set_cons_zero, List.set_cons_succ])
            refine wpAnyH_ready (rs := [14, 16]) (by kernel_rfl) (by simp) ?_
            refine AllReadyH.cons rfl (fun K hK => ?_) (AllReadyH.cons rfl (fun K hK => ?_) (AllReadyH.nil))
            · go_simp
              refine hK.out _ _ (by (try dsimp only); (first | assumption | exact ⟨by assumption, by assumption⟩ | exact set2_keep hRS (by assumption) | exact keepBoth (below_one _ _) (by assumption) | exact keepBoth (below_one _ _) (set2_keep hRS (by assumption)) | exact keepBoth (below_one _ _) (set2_keep hRS ⟨by assumption, by assumption⟩) | go_keep)) (fun hHeld => ?_)
              clear hK K
              (try simp only [List.getElem_toArray, List.getElem_cons_succ, List.getElem_cons_zero, Act.put, List.setIfInBounds_toArray, List.set_cons_zero, List.set_cons_succ])
              refine wpAnyH_ready (rs := [16]) (by kernel_rfl) (by simp) ?_
              refine AllReadyH.cons rfl (fun K hK => ?_) AllReadyH.nil
              go_simp
              (go_at_call 59; (with_reducible refine (pick_any g _ (f) 3 _ (by with_reducible first | assumption | exact Rdr.alloc (by assumption) _) (by omega)).mono ?_); intro e w3 hp; obtain ⟨v, rfl, hv0, hv1, hg1, hr1⟩ := picked_lt (by omega) hp; clear hp; have ST2 := SpSt.pick (by with_reducible first | assumption | exact SpSt.alloc (by assumption) _) hg1 hr1 hgw; have d0 := ST2.c0; have d1 := ST2.c1; have d2 := ST2.c3; obtain ⟨d3, e0, e1, e2, e3⟩ := ST2.b; have d4 := Nat.lt_trans ST2.out.2.2.2.1 ST2.b.1; obtain ⟨k, rfl⟩ := Int.eq_ofNat_of_zero_le hv0; have hk3 : k < 3 := (by omega); (first | ((with_reducible have hq := sel6_new hg1 (by assumption) hk3); obtain ⟨hl1, hl2⟩ := hq) | (have hsel1 := sel6_fst k hk3; have hsel2 := sel6_snd k hk3; have hsel3 := sel6_fst' k hk3; have hsel4 := sel6_snd' k hk3)); clear hg1)
              refine hK.out _ _ (by (try dsimp only); (first | assumption | exact ⟨by assumption, by assumption⟩ | exact set2_keep hRS (by assumption) | exact keepBoth (below_one _ _) (by assumption) | exact keepBoth (below_one _ _) (set2_keep hRS (by assumption)) | exact keepBoth (below_one _ _) (set2_keep hRS ⟨by assumption, by assumption⟩) | go_keep)) (fun hHeld => ?_)
              clear hK K
              (try simp only [List.getElem_toArray, List.getElem_cons_succ, List.getElem_cons_zero, Act.put, List.setIfInBounds_toArray, List.set_cons_zero, List.set_cons_succ])
              refine wpAnyH_take (i := 17) (v := ?_) rfl (by kernel_rfl) (by kernel_rfl) (by kernel_rfl) (fun _ _ _ h => h) (Or.inl ⟨by rfl, ?_⟩) (by assumption) ?_
              rotate_left
              · intro w' hSw; (try dsimp only at hSw); go_simp; try with_reducible rfl
              (try simp only [List.getElem_toArray, List.getElem_cons_succ, List.getElem_cons_zero, Act.put, List.setIfInBounds_toArray, List.set_cons_zero, List.set_cons_succ])
              refine wpAnyH_ready (rs := [18]) (by kernel_rfl) (by simp) ?_
              refine AllReadyH.cons rfl (fun K hK => ?_) AllReadyH.nil
              go_simp
              refine hK.out _ _ (by (try dsimp only); (first | assumption | exact ⟨by assumption, by assumption⟩ | exact set2_keep hRS (by assumption) | exact keepBoth (below_one _ _) (by assumption) | exact keepBoth (below_one _ _) (set2_keep hRS (by assumption)) | exact keepBoth (below_one _ _) (set2_keep hRS ⟨by assumption, by assumption⟩) | go_keep)) (fun hHeld => ?_)
              clear hK K
              (try simp only [List.getElem_toArray, List.getElem_cons_succ, List.getElem_cons_zero, Act.put, List.setIfInBounds_toArray, List.set_cons_zero, List.set_cons_succ])
              refine wpAnyH_ready (rs := [19]) (by kernel_rfl) (by simp) ?_
              refine AllReadyH.cons rfl (fun K hK => ?_) AllReadyH.nil
              go_simp
              refine hK.out _ _ (by (try dsimp only); (first | assumption | exact ⟨by assumption, by assumption⟩ | exact set2_keep hRS (by assumption) | exact keepBoth (below_one _ _) (by assumption) | exact keepBoth (below_one _ _) (set2_keep hRS (by assumption)) | exact keepBoth (below_one _ _) (set2_keep hRS ⟨by assumption, by assumption⟩) | go_keep)) (fun hHeld => ?_)
              clear hK K
              (try simp only [List.getElem_toArray, List.getElem_cons_succ, List.getElem_cons_zero, Act.put, List.setIfInBounds_toArray, List.set_cons_zero, List.set_cons_succ])
              refine wpAnyH_done (by kernel_rfl) ?_ _
              go_wp2
              exact bodyPost_ret (v := .agg #[.int .i64 _, .int .i64 _]) (by simp [results, Try.results60, go_sem, e0, e1]; first | exact ⟨rfl, rfl⟩ | rfl) rfl ⟨_, _, rfl, by first | exact grown_set (grown_set ST2.out.1 (by simp)) (by simp) | exact grown_set (grown_set (ST2.alloc _).out.1 (by simp)) (by simp) | exact grownBy_trans (grown_set (grown_set ST2.out.1 (by simp)) (by simp)) (below_grown (below_one _ _)), by first | exact (ST2.rdr.set (by simp only; omega)).set (by simp only; omega) | exact ((ST2.rdr.set (by simp only; omega)).set (by simp only; omega)).alloc _⟩
            · go_simp
              (go_at_call 59; (with_reducible refine (pick_any g _ (f) 3 _ (by with_reducible first | assumption | exact Rdr.alloc (by assumption) _) (by omega)).mono ?_); intro e w3 hp; obtain ⟨v, rfl, hv0, hv1, hg1, hr1⟩ := picked_lt (by omega) hp; clear hp; have ST2 := SpSt.pick (by with_reducible first | assumption | exact SpSt.alloc (by assumption) _) hg1 hr1 hgw; have d0 := ST2.c0; have d1 := ST2.c1; have d2 := ST2.c3; obtain ⟨d3, e0, e1, e2, e3⟩ := ST2.b; have d4 := Nat.lt_trans ST2.out.2.2.2.1 ST2.b.1; obtain ⟨k, rfl⟩ := Int.eq_ofNat_of_zero_le hv0; have hk3 : k < 3 := (by omega); (first | ((with_reducible have hq := sel6_new hg1 (by assumption) hk3); obtain ⟨hl1, hl2⟩ := hq) | (have hsel1 := sel6_fst k hk3; have hsel2 := sel6_snd k hk3; have hsel3 := sel6_fst' k hk3; have hsel4 := sel6_snd' k hk3)); clear hg1)
              refine hK.out _ _ (by (try dsimp only); (first | assumption | exact ⟨by assumption, by assumption⟩ | exact set2_keep hRS (by assumption) | exact keepBoth (below_one _ _) (by assumption) | exact keepBoth (below_one _ _) (set2_keep hRS (by assumption)) | exact keepBoth (below_one _ _) (set2_keep hRS ⟨by assumption, by assumption⟩) | go_keep)) (fun hHeld => ?_)
              clear hK K
              (try simp only [List.getElem_toArray, List.getElem_cons_succ, List.getElem_cons_zero, Act.put, List.setIfInBounds_toArray, List.set_cons_zero, List.set_cons_succ])
              refine wpAnyH_ready (rs := [14]) (by kernel_rfl) (by simp) ?_
              refine AllReadyH.cons rfl (fun K hK => ?_) AllReadyH.nil
              go_simp
              refine hK.out _ _ (by (try dsimp only); (first | assumption | exact ⟨by assumption, by assumption⟩ | exact set2_keep hRS (by assumption) | exact keepBoth (below_one _ _) (by assumption) | exact keepBoth (below_one _ _) (set2_keep hRS (by assumption)) | exact keepBoth (below_one _ _) (set2_keep hRS ⟨by assumption, by assumption⟩) | go_keep)) (fun hHeld => ?_)
              clear hK K
              (try simp only [List.getElem_toArray, List.getElem_cons_succ, List.getElem_cons_zero, Act.put, List.setIfInBounds_toArray, List.set_cons_zero, List.set_cons_succ])
              refine wpAnyH_take (i := 17) (v := ?_) rfl (by kernel_rfl) (by kernel_rfl) (by kernel_rfl) (fun _ _ _ h => h) (Or.inl ⟨by rfl, ?_⟩) (by assumption) ?_
              rotate_left
              · intro w' hSw; (try dsimp only at hSw); go_simp; try with_reducible rfl
              (try simp only [List.getElem_toArray, List.getElem_cons_succ, List.getElem_cons_zero, Act.put, List.setIfInBounds_toArray, List.set_cons_zero, List.set_cons_succ])
              refine wpAnyH_ready (rs := [18]) (by kernel_rfl) (by simp) ?_
              refine AllReadyH.cons rfl (fun K hK => ?_) AllReadyH.nil
              go_simp
              refine hK.out _ _ (by (try dsimp only); (first | assumption | exact ⟨by assumption, by assumption⟩ | exact set2_keep hRS (by assumption) | exact keepBoth (below_one _ _) (by assumption) | exact keepBoth (below_one _ _) (set2_keep hRS (by assumption)) | exact keepBoth (below_one _ _) (set2_keep hRS ⟨by assumption, by assumption⟩) | go_keep)) (fun hHeld => ?_)
              clear hK K
              (try simp only [List.getElem_toArray, List.getElem_cons_succ, List.getElem_cons_zero, Act.put, List.setIfInBounds_toArray, List.set_cons_zero, List.set_cons_succ])
              refine wpAnyH_ready (rs := [19]) (by kernel_rfl) (by simp) ?_
              refine AllReadyH.cons rfl (fun K hK => ?_) AllReadyH.nil
              go_simp
              refine hK.out _ _ (by (try dsimp only); (first | assumption | exact ⟨by assumption, by assumption⟩ | exact set2_keep hRS (by assumption) | exact keepBoth (below_one _ _) (by assumption) | exact keepBoth (below_one _ _) (set2_keep hRS (by assumption)) | exact keepBoth (below_one _ _) (set2_keep hRS ⟨by assumption, by assumption⟩) | go_keep)) (fun hHeld => ?_)
              clear hK K
              (try simp only [List.getElem_toArray, List.getElem_cons_succ, List.getElem_cons_zero, Act.put, List.setIfInBounds_toArray, List.set_cons_zero, List.set_cons_succ])
              refine wpAnyH_done (by kernel_rfl) ?_ _
              go_wp2
              generalize hW9 : World.alloc _ _ = W9
              have q0 : W9.cell? ⟨w.heap.size, 0, none⟩ = some (.int .i64 (selP (IntKind.i64.wrap (hi + 1), hi) (-1, hi) (lo, IntKind.i64.wrap (top + 1)) k).1) := by rw [← hW9]; exact keepCell (below_one _ _) (by go_cell)
              have q1 : W9.cell? ⟨w.heap.size, 1, none⟩ = some (.int .i64 (selP (IntKind.i64.wrap (hi + 1), hi) (-1, hi) (lo, IntKind.i64.wrap (top + 1)) k).2) := by rw [← hW9]; exact keepCell (below_one _ _) (by go_cell)
              refine bodyPost_ret (v := .agg #[.int .i64 (selP (IntKind.i64.wrap (hi + 1), hi) (-1, hi) (lo, IntKind.i64.wrap (top + 1)) k).1, .int .i64 (selP (IntKind.i64.wrap (hi + 1), hi) (-1, hi) (lo, IntKind.i64.wrap (top + 1)) k).2]) (by simp [results, Try.results60, go_sem, q0, q1]) rfl ⟨_, _, rfl, ?_, ?_⟩
              · rw [← hW9]; exact grownBy_trans (grown_set (grown_set ST2.out.1 (by simp)) (by simp)) (below_grown (below_one _ _))
              · rw [← hW9]; exact ((ST2.rdr.set (by simp only; omega)).set (by simp only; omega)).alloc _
end Go.Proofs.Ytcodmhndigkplaa
