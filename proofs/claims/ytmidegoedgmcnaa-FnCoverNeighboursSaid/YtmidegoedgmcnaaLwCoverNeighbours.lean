/-
  THE WALK of the law FnCoverNeighbours.
-/
import Derived.Test.YtmidegoedgmcnaaPfxKit
import Derived.Test.YtmidegoedgmcnaaJoinS
import Derived.Test.YtmidegoedgmcnaaDrCov
import Derived.Test.YtmidegoedgmcnaaIHave
import Derived.Test.YtmidegoedgmcnaaBlk
import Derived.Test.YtmidegoedgmcnaaStep
import Derived.BigQuiet
import Derived.Deep.QuietTactic
import Derived.Lib.QuietBelow
namespace Go.Proofs.Ytmidegoedgmcnaa
open Go.ChangeShapes Go.WideShapes Go.ChangeAt Go.RowKit Go.Sort Pf
set_option maxRecDepth 20000

set_option maxHeartbeats 2000000 in
theorem walkFnCoverNeighbours (A : Option Addr) (n c : Nat) (zs : List Int) (A' : Option Addr) (n' c' : Nat) (zs' : List Int) (w : World) (h : Rb w A n c zs) (h' : Rb w A' n' c' zs') :
    Calls Try.prog 7 #[.slice A n c, .slice A' n' c'] w fun e w' => e = .returned (.bool true) ∧ Below w.heap.size w w' := by
  have hmax : n ≤ maxLen := Nat.le_trans h.2.1 h.2.2.1
  have hmax' : n' ≤ maxLen := Nat.le_trans h'.2.1 h'.2.2.1
  unfold maxLen at hmax hmax'
  have CD := Lib.hid (drawCoverSpan_any A n c zs w h)
  clear h h'
  by_cases hn : n ≤ 1048576
  · have hn1 : (n : Int) ≤ 1048576 := by omega
    clear hn
    by_cases hn' : n' ≤ 1048576
    · have hn2 : (n' : Int) ≤ 1048576 := by omega
      clear hn'
      go_enter Try.func7, Try.ntmps7
      go_wp2_with fail
      refine (CD.out).mono ?_
      rintro e w1 ⟨lo, hi, rfl, hb1⟩
      have hx := below_one w1 (.cells #[.int .i64 lo, .int .i64 hi] 32)
      have H1 := Lib.hid (chain hb1 hx hb1.size)
      have K1 := Lib.hid (Blk.new w1 #[.int .i64 lo, .int .i64 hi] 32)
      obtain ⟨X, hX⟩ : ∃ X, coverV lo hi = X := ⟨_, rfl⟩
      have hXl : X.length ≤ 30 := by rw [← hX]; unfold coverV; split <;> simp [coverF_length]
      have HX := Lib.hid hX
      clear hb1 hx CD hX
      have c0 := K1.out.c 0 rfl
      have c1 := K1.out.c 1 rfl
      go_wp2_with fail
      refine (owns_as (iCoverSpan_any lo hi _) HX.out).mono ?_
      rintro e w2 ⟨A2, d2, rfl, own2, hb2⟩
      have H2 := Lib.hid (chain H1.out hb2 H1.out.size)
      have K2 := Lib.hid (K1.out.below hb2)
      have X2 := Lib.hid (own_rd own2)
      clear hb2 H1 K1 own2 c0 c1
      have c0 := K2.out.c 0 rfl
      have c1 := K2.out.c 1 rfl
      go_wp2_with fail
      refine (owns_as (sCoverSpan_any lo hi _) HX.out).mono ?_
      rintro e w3 ⟨A3, d3, rfl, own3, hb3⟩
      have H3 := Lib.hid (chain H2.out hb3 H2.out.size)
      have K3 := Lib.hid (K2.out.below hb3)
      have X3 := Lib.hid (X2.out.below hb3)
      have Y3 := Lib.hid (own_rd own3)
      clear hb3 H2 K2 X2 own3 c0 c1
      go_wp2_with fail
      refine (samep_yes X3.out Y3.out rfl).mono ?_
      rintro e w4 ⟨rfl, hb4⟩
      have H4 := Lib.hid (chain H3.out hb4 H3.out.size)
      have K4 := Lib.hid (K3.out.below hb4)
      have X4 := Lib.hid (X3.out.below hb4)
      clear hb4 H3 K3 X3 Y3
      have c0 := K4.out.c 0 rfl
      have c1 := K4.out.c 1 rfl
      by_cases hX0 : X.length = 0
      · have lz1 : (((X.length : Nat) : Int) == 0) = true := by simp [hX0]
        have lz2 : (X.length == 0) = true := by simp [hX0]
        clear hX0
        go_wp2_with fail
        refine (alive_any _).mono ?_
        rintro e w5 ⟨rfl, hb5⟩
        have H5 := Lib.hid (chain H4.out hb5 H4.out.size)
        clear hb5
        go_wp2
        go_ret
        exact ⟨rfl, H5.out⟩
      · have lz1 : (((X.length : Nat) : Int) == 0) = false := by simp; exact fun e => hX0 (by rw [e]; rfl)
        have lz2 : (X.length == 0) = false := by simpa using hX0
        have hok : 0 ≤ lo ∧ lo ≤ hi ∧ hi ≤ 65535 := by
          by_cases c : 0 ≤ lo ∧ lo ≤ hi ∧ hi ≤ 65535
          · exact c
          · exact absurd (by rw [← HX.out]; unfold coverV; rw [if_neg c]; rfl) hX0
        obtain ⟨k0, k1, k2⟩ := hok
        by_cases heq : lo = hi
        · have he1 : (lo == hi) = true := by simpa using heq
          go_wp2_with fail
          refine (alive_any _).mono ?_
          rintro e w5 ⟨rfl, hb5⟩
          have H5 := Lib.hid (chain H4.out hb5 H4.out.size)
          clear hb5
          go_wp2
          go_ret
          exact ⟨rfl, H5.out⟩
        · have he1 : (lo == hi) = false := by simpa using heq
          have hd0 : 0 < hi - lo := by omega
          have hdz : ¬ hi - lo = 0 := by omega
          have hs1 : IntKind.i64.wrap (hi - lo) = hi - lo := IntWalk.i64_in _ (by omega)
          obtain ⟨q, hq⟩ : ∃ q, (n' : Int) % (hi - lo) = q := ⟨_, rfl⟩
          have hq0 : 0 ≤ q := by rw [← hq]; exact Int.emod_nonneg _ hdz
          have hq1 : q < hi - lo := by rw [← hq]; exact Int.emod_lt_of_pos _ hd0
          have hqt : Int.tmod (n' : Int) (hi - lo) = q := by rw [Int.tmod_eq_emod_of_nonneg (by omega)]; exact hq
          have hs2 : IntKind.i64.wrap (lo + q) = lo + q := IntWalk.i64_in _ (by omega)
          have hs3 : IntKind.i64.wrap q = q := IntWalk.i64_in _ (by omega)
          have hs4 : IntKind.i64.wrap (lo + q + 1) = lo + q + 1 := IntWalk.i64_in _ (by omega)
          have HC1 := Lib.hid (show coverV lo (lo + q) = coverF lo (lo + q) from if_pos (by omega))
          have HC2 := Lib.hid (show coverV (lo + q + 1) hi = coverF (lo + q + 1) hi from if_pos (by omega))
          have HJ := Lib.hid (fun hl => show joinV (coverF lo (lo + q) ++ coverF (lo + q + 1) hi) = X by rw [join_neighbours k0 (by omega) (by omega) k2 hl, ← HX.out]; exact (if_pos ⟨k0, k1, k2⟩).symm)
          go_upto_region 9 with fail
          go_quiet (fail)
          have HV := Lib.hid (below_drewN H4.out nq)
          have KV := Lib.hid (K4.out.drewN nq)
          have XV := Lib.hid (X4.out.below (below_drewN (Below.refl w4.heap.size w4) nq))
          clear hs1 hqt hs3 hq H4 K4 X4 c0 c1 lz1 lz2 he1 hd0 hdz heq hX0
          go_upto_region 10 with fail
          generalize w4.drewN nq = V at HV KV XV ⊢
          generalize w1.heap.size = P at KV ⊢
          have hp1 : 0 < (coverF lo (lo + q)).length := cover_pos k0 (by omega) (by omega)
          have hp2 : 0 < (coverF (lo + q + 1) hi).length := cover_pos (by omega) k2 (by omega)
          have hl1 := coverF_length lo (lo + q)
          have hl2 := coverF_length (lo + q + 1) hi
          obtain ⟨i0, hi0, hz0, hz1, hz2⟩ := info_parts infoPrefixE
          have hPV := KV.out.lt
          have e0 := KV.out.drew.c 0 rfl
          have e1 := KV.out.drew.c 1 rfl
          go_cut [8] (fun s8 wx => ∃ (A9 : Option Addr) (c9 : Nat), s8 = .slice A9 (coverF lo (lo + q) ++ coverF (lo + q + 1) hi).length c9 ∧ Rd wx A9 (coverF lo (lo + q) ++ coverF (lo + q + 1) hi).length c9 (coverF lo (lo + q) ++ coverF (lo + q + 1) hi) ∧ Below V.heap.size V wx)
          case first =>
            refine wp_region_held_drew (S := fun w' => w'.cell? ⟨P, 0, none⟩ = some (.int .i64 lo) ∧ w'.cell? ⟨P, 1, none⟩ = some (.int .i64 hi)) (by kernel_rfl) (by (try dsimp only); exact ⟨e0, e1⟩) (fun hHeld => ?_)
            refine wpAnyH_take (i := 1) (v := ?_) rfl (by kernel_rfl) (by kernel_rfl) (by kernel_rfl) (fun _ _ _ h => h) (Or.inl ⟨by rfl, ?_⟩) (by assumption) ?_
            rotate_left
            · intro w' hSw; (try dsimp only at hSw); go_simp; try with_reducible rfl
            (try simp only [List.getElem_toArray, List.getElem_cons_succ, List.getElem_cons_zero, Act.put, List.setIfInBounds_toArray, List.set_cons_zero, List.set_cons_succ])
            refine wpAnyH_take (i := 2) (v := ?_) rfl (by kernel_rfl) (by kernel_rfl) (by kernel_rfl) (fun _ _ _ h => h) (Or.inl ⟨by rfl, ?_⟩) (by assumption) ?_
            rotate_left
            · intro w' hSw; (try dsimp only at hSw); go_simp; try with_reducible rfl
            (try simp only [List.getElem_toArray, List.getElem_cons_succ, List.getElem_cons_zero, Act.put, List.setIfInBounds_toArray, List.set_cons_zero, List.set_cons_succ])
            refine wpAnyH_take (i := 3) (v := ?_) rfl (by kernel_rfl) (by kernel_rfl) (by kernel_rfl) (fun _ _ _ h => h) (Or.inl ⟨by rfl, ?_⟩) (by assumption) ?_
            rotate_left
            · intro w' hSw; (try dsimp only at hSw); go_simp; try with_reducible rfl
            (try simp only [List.getElem_toArray, List.getElem_cons_succ, List.getElem_cons_zero, Act.put, List.setIfInBounds_toArray, List.set_cons_zero, List.set_cons_succ])
            refine wpAnyH_take (i := 4) (v := ?_) rfl (by kernel_rfl) (by kernel_rfl) (by kernel_rfl) (fun _ _ _ h => h) (Or.inl ⟨by rfl, ?_⟩) (by assumption) ?_
            rotate_left
            · intro w' hSw; (try dsimp only at hSw); go_simp; try with_reducible rfl
            (try simp only [List.getElem_toArray, List.getElem_cons_succ, List.getElem_cons_zero, Act.put, List.setIfInBounds_toArray, List.set_cons_zero, List.set_cons_succ])
            refine wpAnyH_take (i := 7) (v := ?_) rfl (by kernel_rfl) (by kernel_rfl) (by kernel_rfl) (fun _ _ _ h => h) (Or.inl ⟨by rfl, ?_⟩) (by assumption) ?_
            rotate_left
            · intro w' hSw; (try dsimp only at hSw); go_simp; try with_reducible rfl
            (try simp only [List.getElem_toArray, List.getElem_cons_succ, List.getElem_cons_zero, Act.put, List.setIfInBounds_toArray, List.set_cons_zero, List.set_cons_succ])
            refine wpAnyH_take (i := 8) (v := ?_) rfl (by kernel_rfl) (by kernel_rfl) (by kernel_rfl) (fun _ _ _ h => h) (Or.inl ⟨by rfl, ?_⟩) (by assumption) ?_
            rotate_left
            · intro w' hSw; (try dsimp only at hSw); go_simp; try with_reducible rfl
            (try simp only [List.getElem_toArray, List.getElem_cons_succ, List.getElem_cons_zero, Act.put, List.setIfInBounds_toArray, List.set_cons_zero, List.set_cons_succ])
            refine wpAnyH_take (i := 9) (v := ?_) rfl (by kernel_rfl) (by kernel_rfl) (by kernel_rfl) (fun _ _ _ h => h) (Or.inl ⟨by rfl, ?_⟩) (by assumption) ?_
            rotate_left
            · intro w' hSw; (try dsimp only at hSw); go_simp; try with_reducible rfl
            (try simp only [List.getElem_toArray, List.getElem_cons_succ, List.getElem_cons_zero, Act.put, List.setIfInBounds_toArray, List.set_cons_zero, List.set_cons_succ])
            refine wpAnyH_take (i := 10) (v := ?_) rfl (by kernel_rfl) (by kernel_rfl) (by kernel_rfl) (fun _ _ _ h => h) (Or.inl ⟨by rfl, ?_⟩) (by assumption) ?_
            rotate_left
            · intro w' hSw; (try dsimp only at hSw); go_simp; try with_reducible rfl
            (try simp only [List.getElem_toArray, List.getElem_cons_succ, List.getElem_cons_zero, Act.put, List.setIfInBounds_toArray, List.set_cons_zero, List.set_cons_succ])
            refine wpAnyH_take (i := 11) (v := ?_) rfl (by kernel_rfl) (by kernel_rfl) (by kernel_rfl) (fun _ _ _ h => h) (Or.inl ⟨by rfl, ?_⟩) (by assumption) ?_
            rotate_left
            · intro w' hSw; (try dsimp only at hSw); go_simp; try with_reducible rfl
            (try simp only [List.getElem_toArray, List.getElem_cons_succ, List.getElem_cons_zero, Act.put, List.setIfInBounds_toArray, List.set_cons_zero, List.set_cons_succ])
            refine wpAnyH_ready (rs := [0, 5]) (by kernel_rfl) (by simp) ?_
            refine AllReadyH.cons rfl (fun K hK => ?_) (AllReadyH.cons rfl (fun K hK => ?_) (AllReadyH.nil))
            · go_simp
              have HB1 := Lib.hid (show Below V.heap.size V (V.alloc (.cells #[] 30)).drew from below_drewN (below_one V _) 1)
              have OE1 := Lib.hid (show (V.alloc (.cells #[] 30)).drew.ownsRow V.heap.size 30 2 (.slice (some ⟨V.heap.size, 0, none⟩) 0 0) 0 [] from World.ownsRow_lit (base := V.heap.size) (e := 30) (size := 2) V #[] 0 (Nat.le_refl _) (by unfold maxLen; omega) rfl)
              refine hK.out _ _ (by (try dsimp only); exact ⟨(KV.out.below HB1.out).c 0 rfl, (KV.out.below HB1.out).c 1 rfl⟩) (fun hHeld => ?_)
              clear hK K
              (try simp only [List.getElem_toArray, List.getElem_cons_succ, List.getElem_cons_zero, Act.put, List.setIfInBounds_toArray, List.set_cons_zero, List.set_cons_succ])
              refine wpAnyH_ready (rs := [5]) (by kernel_rfl) (by simp) ?_
              refine AllReadyH.cons rfl (fun K hK => ?_) AllReadyH.nil
              go_simp
              go_at_call 31
              (with_reducible refine (owns_as (iCoverSpan_any lo (lo + q) _) HC1.out).mono ?_)
              rintro e w52 ⟨A2, d2, rfl, own2, hb2⟩
              obtain ⟨g2, rfl⟩ := own_some own2 hp1
              have HB2 := Lib.hid (chain HB1.out hb2 HB1.out.size)
              have E_2 := Lib.hid (own_below OE1.out hb2)
              have O1_2 := Lib.hid own2
              clear own2 hb2
              refine hK.out _ _ (by (try dsimp only); exact ⟨(KV.out.below HB2.out).c 0 rfl, (KV.out.below HB2.out).c 1 rfl⟩) (fun hHeld => ?_)
              clear hK K
              (try simp only [List.getElem_toArray, List.getElem_cons_succ, List.getElem_cons_zero, Act.put, List.setIfInBounds_toArray, List.set_cons_zero, List.set_cons_succ])
              refine wpAnyH_ready (rs := [6]) (by kernel_rfl) (by simp) ?_
              refine AllReadyH.cons rfl (fun K hK => ?_) AllReadyH.nil
              refine step_append_own (by rfl) (.tmp 48) (.tmp 53) 23 (by rfl) V.heap.size 30 i0 _ 2 16 Try.underlying23 hi0 hz0 hz1 hz2 rfl (by decide) (.slice (some ⟨V.heap.size, 0, none⟩) 0 0) 0 [] (by rfl) (by exact E_2.out) ⟨g2, 0, none⟩ (coverF lo (lo + q)).length d2 (flat (coverF lo (lo + q))) (by rfl) (flat_length _) (by exact O1_2.out.cells rfl) (flat_one _) (by unfold maxLen; omega) (by omega) (by exact HB2.out.size) ?_
              intro v3 w53 own3 hg3
              have HB3 := Lib.hid (HB2.out.grown hg3 HB2.out.size (fun k hk => (E_2.out.lt k hk).1))
              simp only [Nat.zero_add, List.nil_append] at own3
              obtain ⟨A3, c3, hv3⟩ := own_slice own3
              subst hv3
              have V1_3 := Lib.hid own3
              clear own3 hg3
              refine hK.out _ _ (by (try dsimp only); exact ⟨(KV.out.below HB3.out).c 0 rfl, (KV.out.below HB3.out).c 1 rfl⟩) (fun hHeld => ?_)
              clear hK K
              (try simp only [List.getElem_toArray, List.getElem_cons_succ, List.getElem_cons_zero, Act.put, List.setIfInBounds_toArray, List.set_cons_zero, List.set_cons_succ])
              refine wpAnyH_ready (rs := [12]) (by kernel_rfl) (by simp) ?_
              refine AllReadyH.cons rfl (fun K hK => ?_) AllReadyH.nil
              go_simp
              go_at_call 31
              (with_reducible refine (owns_as (iCoverSpan_any (lo + q + 1) hi _) HC2.out).mono ?_)
              rintro e w54 ⟨A4, d4, rfl, own4, hb4⟩
              obtain ⟨g4, rfl⟩ := own_some own4 hp2
              have HB4 := Lib.hid (chain HB3.out hb4 HB3.out.size)
              have V1_4 := Lib.hid (own_below V1_3.out hb4)
              have O2_4 := Lib.hid own4
              clear own4 hb4
              refine hK.out _ _ (by (try dsimp only); exact ⟨(KV.out.below HB4.out).c 0 rfl, (KV.out.below HB4.out).c 1 rfl⟩) (fun hHeld => ?_)
              clear hK K
              (try simp only [List.getElem_toArray, List.getElem_cons_succ, List.getElem_cons_zero, Act.put, List.setIfInBounds_toArray, List.set_cons_zero, List.set_cons_succ])
              refine wpAnyH_ready (rs := [13]) (by kernel_rfl) (by simp) ?_
              refine AllReadyH.cons rfl (fun K hK => ?_) AllReadyH.nil
              refine step_append_own (by rfl) (.tmp 54) (.tmp 60) 23 (by rfl) V.heap.size 30 i0 _ 2 16 Try.underlying23 hi0 hz0 hz1 hz2 rfl (by decide) (.slice A3 (coverF lo (lo + q)).length c3) (coverF lo (lo + q)).length (flat (coverF lo (lo + q))) (by rfl) (by exact V1_4.out) ⟨g4, 0, none⟩ (coverF (lo + q + 1) hi).length d4 (flat (coverF (lo + q + 1) hi)) (by rfl) (flat_length _) (by exact O2_4.out.cells rfl) (flat_one _) (by unfold maxLen; omega) (by omega) (by exact HB4.out.size) ?_
              intro v5 w55 own5 hg5
              have HBZ := Lib.hid (HB4.out.grown hg5 HB4.out.size (fun k hk => (V1_4.out.lt k hk).1))
              rw [← flat_append, ← List.length_append] at own5
              obtain ⟨AZ, cZ, hvZ⟩ := own_slice own5
              subst hvZ
              have OZ := Lib.hid (own_rd own5)
              clear own5 hg5
              refine hK.out _ _ (by (try dsimp only); exact ⟨(KV.out.below HBZ.out).c 0 rfl, (KV.out.below HBZ.out).c 1 rfl⟩) (fun hHeld => ?_)
              clear hK K
              (try simp only [List.getElem_toArray, List.getElem_cons_succ, List.getElem_cons_zero, Act.put, List.setIfInBounds_toArray, List.set_cons_zero, List.set_cons_succ])
              refine wpAnyH_take (i := 14) (v := ?_) rfl (by kernel_rfl) (by kernel_rfl) (by kernel_rfl) (fun _ _ _ h => h) (Or.inl ⟨by rfl, ?_⟩) (by assumption) ?_
              rotate_left
              · intro w' hSw; (try dsimp only at hSw); go_simp; try with_reducible rfl
              (try simp only [List.getElem_toArray, List.getElem_cons_succ, List.getElem_cons_zero, Act.put, List.setIfInBounds_toArray, List.set_cons_zero, List.set_cons_succ])
              refine wpAnyH_done (by kernel_rfl) ?_ _
              go_wp2
              go_meet
              exact ⟨AZ, cZ, by rw [List.length_append], OZ.out, HBZ.out⟩
            · go_simp
              go_at_call 31
              (with_reducible refine (owns_as (iCoverSpan_any lo (lo + q) _) HC1.out).mono ?_)
              rintro e w51 ⟨A1, d1, rfl, own1, hb1⟩
              obtain ⟨g1, rfl⟩ := own_some own1 hp1
              have HB1 := Lib.hid (show Below V.heap.size V w51 from chain (below_drewN (Below.refl V.heap.size V) 1) hb1 (Nat.le_refl _))
              have O1_1 := Lib.hid own1
              clear own1 hb1
              refine hK.out _ _ (by (try dsimp only); exact ⟨(KV.out.below HB1.out).c 0 rfl, (KV.out.below HB1.out).c 1 rfl⟩) (fun hHeld => ?_)
              clear hK K
              (try simp only [List.getElem_toArray, List.getElem_cons_succ, List.getElem_cons_zero, Act.put, List.setIfInBounds_toArray, List.set_cons_zero, List.set_cons_succ])
              refine wpAnyH_ready (rs := [0]) (by kernel_rfl) (by simp) ?_
              refine AllReadyH.cons rfl (fun K hK => ?_) AllReadyH.nil
              go_simp
              have hsz2 := HB1.out.size
              have HB2 := Lib.hid (chain HB1.out (below_one w51 (.cells #[] 30)) hsz2)
              have OE2 := Lib.hid (World.ownsRow_lit (base := V.heap.size) (e := 30) (size := 2) w51 #[] 0 hsz2 (by unfold maxLen; omega) rfl)
              have O1_2 := Lib.hid (own_below O1_1.out (below_one w51 (.cells #[] 30)))
              refine hK.out _ _ (by (try dsimp only); exact ⟨(KV.out.below HB2.out).c 0 rfl, (KV.out.below HB2.out).c 1 rfl⟩) (fun hHeld => ?_)
              clear hK K
              (try simp only [List.getElem_toArray, List.getElem_cons_succ, List.getElem_cons_zero, Act.put, List.setIfInBounds_toArray, List.set_cons_zero, List.set_cons_succ])
              refine wpAnyH_ready (rs := [6]) (by kernel_rfl) (by simp) ?_
              refine AllReadyH.cons rfl (fun K hK => ?_) AllReadyH.nil
              refine step_append_own (by rfl) (.tmp 48) (.tmp 53) 23 (by rfl) V.heap.size 30 i0 _ 2 16 Try.underlying23 hi0 hz0 hz1 hz2 rfl (by decide) (.slice (some ⟨w51.heap.size, 0, none⟩) 0 0) 0 [] (by rfl) (by exact OE2.out) ⟨g1, 0, none⟩ (coverF lo (lo + q)).length d1 (flat (coverF lo (lo + q))) (by rfl) (flat_length _) (by exact O1_2.out.cells rfl) (flat_one _) (by unfold maxLen; omega) (by omega) (by exact HB2.out.size) ?_
              intro v3 w53 own3 hg3
              have HB3 := Lib.hid (HB2.out.grown hg3 HB2.out.size (fun k hk => (OE2.out.lt k hk).1))
              simp only [Nat.zero_add, List.nil_append] at own3
              obtain ⟨A3, c3, hv3⟩ := own_slice own3
              subst hv3
              have V1_3 := Lib.hid own3
              clear own3 hg3
              refine hK.out _ _ (by (try dsimp only); exact ⟨(KV.out.below HB3.out).c 0 rfl, (KV.out.below HB3.out).c 1 rfl⟩) (fun hHeld => ?_)
              clear hK K
              (try simp only [List.getElem_toArray, List.getElem_cons_succ, List.getElem_cons_zero, Act.put, List.setIfInBounds_toArray, List.set_cons_zero, List.set_cons_succ])
              refine wpAnyH_ready (rs := [12]) (by kernel_rfl) (by simp) ?_
              refine AllReadyH.cons rfl (fun K hK => ?_) AllReadyH.nil
              go_simp
              go_at_call 31
              (with_reducible refine (owns_as (iCoverSpan_any (lo + q + 1) hi _) HC2.out).mono ?_)
              rintro e w54 ⟨A4, d4, rfl, own4, hb4⟩
              obtain ⟨g4, rfl⟩ := own_some own4 hp2
              have HB4 := Lib.hid (chain HB3.out hb4 HB3.out.size)
              have V1_4 := Lib.hid (own_below V1_3.out hb4)
              have O2_4 := Lib.hid own4
              clear own4 hb4
              refine hK.out _ _ (by (try dsimp only); exact ⟨(KV.out.below HB4.out).c 0 rfl, (KV.out.below HB4.out).c 1 rfl⟩) (fun hHeld => ?_)
              clear hK K
              (try simp only [List.getElem_toArray, List.getElem_cons_succ, List.getElem_cons_zero, Act.put, List.setIfInBounds_toArray, List.set_cons_zero, List.set_cons_succ])
              refine wpAnyH_ready (rs := [13]) (by kernel_rfl) (by simp) ?_
              refine AllReadyH.cons rfl (fun K hK => ?_) AllReadyH.nil
              refine step_append_own (by rfl) (.tmp 54) (.tmp 60) 23 (by rfl) V.heap.size 30 i0 _ 2 16 Try.underlying23 hi0 hz0 hz1 hz2 rfl (by decide) (.slice A3 (coverF lo (lo + q)).length c3) (coverF lo (lo + q)).length (flat (coverF lo (lo + q))) (by rfl) (by exact V1_4.out) ⟨g4, 0, none⟩ (coverF (lo + q + 1) hi).length d4 (flat (coverF (lo + q + 1) hi)) (by rfl) (flat_length _) (by exact O2_4.out.cells rfl) (flat_one _) (by unfold maxLen; omega) (by omega) (by exact HB4.out.size) ?_
              intro v5 w55 own5 hg5
              have HBZ := Lib.hid (HB4.out.grown hg5 HB4.out.size (fun k hk => (V1_4.out.lt k hk).1))
              rw [← flat_append, ← List.length_append] at own5
              obtain ⟨AZ, cZ, hvZ⟩ := own_slice own5
              subst hvZ
              have OZ := Lib.hid (own_rd own5)
              clear own5 hg5
              refine hK.out _ _ (by (try dsimp only); exact ⟨(KV.out.below HBZ.out).c 0 rfl, (KV.out.below HBZ.out).c 1 rfl⟩) (fun hHeld => ?_)
              clear hK K
              (try simp only [List.getElem_toArray, List.getElem_cons_succ, List.getElem_cons_zero, Act.put, List.setIfInBounds_toArray, List.set_cons_zero, List.set_cons_succ])
              refine wpAnyH_take (i := 14) (v := ?_) rfl (by kernel_rfl) (by kernel_rfl) (by kernel_rfl) (fun _ _ _ h => h) (Or.inl ⟨by rfl, ?_⟩) (by assumption) ?_
              rotate_left
              · intro w' hSw; (try dsimp only at hSw); go_simp; try with_reducible rfl
              (try simp only [List.getElem_toArray, List.getElem_cons_succ, List.getElem_cons_zero, Act.put, List.setIfInBounds_toArray, List.set_cons_zero, List.set_cons_succ])
              refine wpAnyH_done (by kernel_rfl) ?_ _
              go_wp2
              go_meet
              exact ⟨AZ, cZ, by rw [List.length_append], OZ.out, HBZ.out⟩
          case rest =>
            obtain ⟨A9, c9, rfl, r9, hb9⟩ := hcut
            have H9 := Lib.hid (chain HV.out hb9 HV.out.size)
            have R9 := Lib.hid r9
            have X9 := Lib.hid (XV.out.below hb9)
            clear r9 hb9 HV XV KV e0 e1
            generalize hL : coverF lo (lo + q) ++ coverF (lo + q + 1) hi = L at R9 HJ ⊢
            by_cases hl : L.length ≤ 40
            · have hg1 : decide ((40 : Int) < ((L.length : Nat) : Int)) = false := by simp; omega
              have HJ1 := Lib.hid (HJ.out hl)
              go_wp2_with fail
              refine (owns_as (iJoinPrefixes_any A9 L.length c9 L _ R9.out) HJ1.out).mono ?_
              rintro e w70 ⟨A10, c10, rfl, own10, hb10⟩
              have H10 := Lib.hid (chain H9.out hb10 H9.out.size)
              have X10 := Lib.hid (X9.out.below hb10)
              have R10 := Lib.hid (own_rd own10)
              clear hb10 own10
              go_wp2_with fail
              refine (samep_yes R10.out X10.out rfl).mono ?_
              rintro e w71 ⟨rfl, hb11⟩
              have H11 := Lib.hid (chain H10.out hb11 H10.out.size)
              clear hb11
              go_wp2
              go_ret
              exact ⟨rfl, H11.out⟩
            · have hg1 : decide ((40 : Int) < ((L.length : Nat) : Int)) = true := by simp; omega
              clear hl
              go_wp2
              go_ret
              exact ⟨rfl, H9.out⟩
    · have hn2 : (1048576 : Int) < n' := by omega
      clear hn'
      go_enter Try.func7, Try.ntmps7
      go_wp2
      go_ret
      exact ⟨rfl, Below.refl _ _⟩
  · have hn1 : (1048576 : Int) < n := by omega
    clear hn
    go_enter Try.func7, Try.ntmps7
    go_wp2
    go_ret
    exact ⟨rfl, Below.refl _ _⟩
end Go.Proofs.Ytmidegoedgmcnaa
