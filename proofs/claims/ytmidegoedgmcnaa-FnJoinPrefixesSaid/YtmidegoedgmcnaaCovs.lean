/-
  WALKS: impl.CoverSpans, spec.CoverSpans: 'coversV'.
-/
import Derived.Test.YtmidegoedgmcnaaSpecCov
import Derived.Test.YtmidegoedgmcnaaSpansValid
import Derived.Test.YtmidegoedgmcnaaSpecValid
import Derived.Test.YtmidegoedgmcnaaOps
import Derived.Laws.AppendOwnNone
import Derived.Test.YtmidegoedgmcnaaOpen
import Derived.Deep.RegionLaw
import Derived.Deep.AppendLies
namespace Go.Proofs.Ytmidegoedgmcnaa
open Go.ChangeShapes Go.WideShapes Go.ChangeAt Go.RowKit Go.Sort Pf
set_option maxRecDepth 20000

def coversF (xs : PS) : PS := xs.flatMap fun s => coverF s.1 s.2
def coversV (xs : PS) : PS := if valid xs 65535 then coversF xs else []
theorem coversF_take (xs : PS) (k : Nat) (h : k < xs.length) : coversF (xs.take (k + 1)) = coversF (xs.take k) ++ coverF xs[k].1 xs[k].2 := by
  unfold coversF
  rw [List.take_succ_eq_append_getElem h, List.flatMap_append]
  simp only [List.flatMap_cons, List.flatMap_nil, List.append_nil]
theorem coversF_length : ∀ xs : PS, (coversF xs).length ≤ 30 * xs.length
  | [] => Nat.le_refl _
  | s :: xs => by
    have h1 := coversF_length xs
    have h2 := coverF_length s.1 s.2
    show (coverF s.1 s.2 ++ coversF xs).length ≤ _
    rw [List.length_append, List.length_cons]; omega
theorem coversV_length (xs : PS) : (coversV xs).length ≤ 1200 := by
  unfold coversV
  split
  · rename_i h
    have h1 := coversF_length xs
    have h2 := (valid_iff.1 h).2.1
    omega
  · simp

theorem coverF_some {lo hi : Int} (h0 : 0 ≤ lo) (h1 : hi ≤ 65535) (h : lo ≤ hi) : 0 < (coverF lo hi).length := by
  cases hc : coverF lo hi with
  | nil =>
    have := cover_gr h0 h1
    rw [hc] at this
    have := gr_end this
    omega
  | cons a b => simp

set_option maxHeartbeats 1000000 in
theorem iCoverSpans_any (A : Option Addr) (n c : Nat) (xs : PS) (w : World) (h : Rd w A n c xs) : Calls Try.prog 19 #[.slice A n c] w (Owns 30 (coversV xs) w) := by
  have CA := Lib.hid (iSpansValid_any A n c xs 65535 w h)
  cases hv : valid xs 65535 with
  | false =>
    rw [hv] at CA
    have HC := Lib.hid (show coversV xs = [] from by unfold coversV; rw [hv]; rfl)
    clear hv h
    go_enter Try.func19, Try.ntmps19
    go_wp2_with fail
    refine (CA.out).mono ?_
    rintro e w1 ⟨rfl, hb1⟩
    go_wp2
    go_ret
    rw [HC.out]
    exact owns_nil hb1
  | true =>
    rw [hv] at CA
    obtain rfl : xs.length = n := h.len
    have HC := Lib.hid (show coversV xs = coversF xs from by unfold coversV; rw [hv]; rfl)
    have hn : xs.length ≤ 40 := (valid_iff.1 hv).2.1
    have VB := Lib.hid (validF_all (by omega) (valid_F hv))
    have HR := Lib.hid h
    clear hv h
    go_enter Try.func19, Try.ntmps19
    go_wp2_with fail
    refine (CA.out).mono ?_
    rintro e w1 ⟨rfl, hb1⟩
    go_wp2_with fail
    go_loopg [3, 11] xs.length (fun g s3 s11 wr => ∃ (k : Nat) (outs : PS) (A' : Option Addr) (c' : Nat), g + k = xs.length ∧ s11 = .int .i64 k ∧ s3 = .slice A' outs.length c' ∧ outs = coversF (xs.take k) ∧
      wr.ownsRow w.heap.size 30 2 (.slice A' outs.length c') outs.length (flat outs) ∧ Below w.heap.size w wr)
    case atStart => exact ⟨0, [], none, 0, by omega, rfl, rfl, rfl, ⟨rfl, .inl ⟨rfl, rfl⟩⟩, hb1⟩
    case round =>
      obtain ⟨k, outs, A', c', hg, rfl, rfl, heq, own, hb⟩ := hrel
      have HG := Lib.hid hg
      have HEQ := Lib.hid heq
      have HO := Lib.hid own
      have hs := hb.size
      have hol : outs.length ≤ 1200 := by
        have := coversF_length (xs.take k)
        rw [← heq, List.length_take] at this
        omega
      have hkx : k ≤ xs.length := by omega
      clear hg heq own
      by_cases hkn : k < xs.length
      · obtain ⟨b, o, hA, hbl, hc0⟩ := (HR.out.below hb).at_ hkn
        subst hA
        obtain ⟨d1, d2⟩ := hc0 hkn
        have HT := coversF_take xs k hkn
        have y3 := VB.out _ (List.getElem_mem hkn)
        rw [← HEQ.out] at HT
        generalize xs[k] = y at d1 d2 HT y3
        obtain ⟨y1, y2⟩ := y
        simp only at d1 d2 y3 HT
        have hcl := coverF_length y1 y2
        have HT := Lib.hid HT
        have CB := Lib.hid (fun W (H : w.heap.size ≤ W.heap.size) (O : W.ownsRow w.heap.size 30 2 (.slice A' outs.length c') outs.length (flat outs)) => coverBelow_any y1 y2 w.heap.size 16 0 0 A' c' outs W rfl (by decide) H O (by have : trieF y1 y2 16 0 = coverF y1 y2 := rfl; rw [this]; omega))
        clear hc0 y3
        go_wp2_with fail
        refine (CB.out _ (by simp; omega) (HO.out.alloc _)).mono ?_
        rintro e w5 ⟨A5, c5, rfl, own5, hg5, -⟩
        have O5 := Lib.hid own5
        have G5 := Lib.hid hg5
        clear own5 hg5
        go_wp2
        go_roundg (gk - 1)
        case measure => have := HG.out; omega
        case rel =>
          refine ⟨k + 1, outs ++ coverF y1 y2, A5, c5, by have := HG.out; omega, by go_num, by rw [List.length_append]; rfl, HT.out.symm, O5.out, ?_⟩
          exact (hb.alloc hs _).grown G5.out (by simp; omega) fun k hk => (HO.out.lt k hk).1
      · obtain rfl : k = xs.length := by omega
        go_wp2
        go_ret
        have he := HEQ.out
        rw [List.take_of_length_le (Nat.le_refl _)] at he
        rw [HC.out, ← he]
        exact ⟨A', c', rfl, HO.out, hb⟩

set_option maxHeartbeats 1000000 in
theorem sCoverSpans_any (A : Option Addr) (n c : Nat) (xs : PS) (w : World) (h : Rd w A n c xs) : Calls Try.prog 21 #[.slice A n c] w (Owns 30 (coversV xs) w) := by
  obtain rfl : xs.length = n := h.len
  obtain ⟨i0, hi0, hz0, hz1, hz2⟩ := info_parts infoPrefixE
  cases hv : valid xs 65535 with
  | false =>
    have CA := Lib.hid (fun W (H : Below w.heap.size w W) => sSpansValid_any A _ c xs 65535 W (h.below H))
    rw [hv] at CA
    have HC := Lib.hid (show coversV xs = [] from by unfold coversV; rw [hv]; rfl)
    have hmax : xs.length ≤ maxLen := Nat.le_trans h.2.1 h.2.2.1
    unfold maxLen at hmax
    clear hv h
    go_enter Try.func21, Try.ntmps21
    go_wp2
    go_loopg [3, 4] 0 (fun g s3 s4 wr => s4 = .int .i64 0 ∧ s3 = .slice (some ⟨w.heap.size, 0, none⟩) 0 0 ∧ w.alloc (.cells #[] 30) = wr)
    case atStart => exact ⟨rfl, rfl, rfl⟩
    case round =>
      obtain ⟨rfl, rfl, rfl⟩ := hrel
      by_cases hz : 0 < xs.length
      · go_wp2_with fail
        refine (CA.out _ (below_one _ _)).mono ?_
        rintro e w1 ⟨rfl, hb1⟩
        go_wp2
        go_ret
        rw [HC.out]
        exact ⟨_, _, rfl, own_below (World.ownsRow_lit (e := 30) w #[] 0 (Nat.le_refl _) (by unfold maxLen; omega) rfl) hb1, chain (below_one _ _) hb1 (by simp)⟩
      · have hz' : (xs.length : Int) ≤ 0 := by omega
        clear hz
        go_wp2
        go_ret
        rw [HC.out]
        exact ⟨_, _, rfl, World.ownsRow_lit (e := 30) w #[] 0 (Nat.le_refl _) (by unfold maxLen; omega) rfl, below_one _ _⟩
  | true =>
    have CA := Lib.hid (fun W (H : Below w.heap.size w W) => sSpansValid_any A _ c xs 65535 W (h.below H))
    rw [hv] at CA
    have HC := Lib.hid (show coversV xs = coversF xs from by unfold coversV; rw [hv]; rfl)
    have hn : xs.length ≤ 40 := (valid_iff.1 hv).2.1
    have VB := Lib.hid (validF_all (by omega) (valid_F hv))
    have HR := Lib.hid h
    clear hv h
    go_enter Try.func21, Try.ntmps21
    go_wp2
    go_loopg [3, 4] xs.length (fun g s3 s4 wr => ∃ (k : Nat) (outs : PS) (A' : Option Addr) (c' : Nat), g + k = xs.length ∧ s4 = .int .i64 k ∧ s3 = .slice A' outs.length c' ∧ outs = coversF (xs.take k) ∧
      wr.ownsRow w.heap.size 30 2 (.slice A' outs.length c') outs.length (flat outs) ∧ Below w.heap.size w wr)
    case atStart => exact ⟨0, [], _, _, by omega, rfl, rfl, rfl, World.ownsRow_lit (e := 30) w #[] 0 (Nat.le_refl _) (by unfold maxLen; omega) rfl, below_one _ _⟩
    case round =>
      obtain ⟨k, outs, A', c', hg, rfl, rfl, heq, own, hb⟩ := hrel
      have HG := Lib.hid hg
      have HEQ := Lib.hid heq
      have HO := Lib.hid own
      have hs := hb.size
      have hol : outs.length ≤ 1200 := by
        have := coversF_length (xs.take k)
        rw [← heq, List.length_take] at this
        omega
      have hkx : k ≤ xs.length := by omega
      clear hg heq own
      by_cases hkn : k < xs.length
      · have HT := coversF_take xs k hkn
        have y3 := VB.out _ (List.getElem_mem hkn)
        obtain ⟨b, o, hA, hbl, hc0⟩ := HR.out.at_ hkn
        subst hA
        obtain ⟨d1, d2⟩ := hc0 hkn
        rw [← HEQ.out] at HT
        generalize xs[k] = y at d1 d2 HT y3
        obtain ⟨y1, y2⟩ := y
        simp only at d1 d2 y3 HT
        obtain ⟨y30, y31, y32⟩ := y3
        have hcl := coverF_length y1 y2
        have hcs := coverF_some y30 y32 y31
        have HT := Lib.hid HT
        have CL := Lib.hid (fun W => l4Cover_any y1 y2 W y30 (by omega) y32)
        have hki : (k : Int) < xs.length := by omega
        have hk0 : (0 : Int) ≤ k := by omega
        clear hc0
        go_wp2_with fail
        refine (CA.out _ hb).mono ?_
        rintro e w1 ⟨rfl, hb1⟩
        have c1 := keepCell hb1 (keepCell hb d1)
        have c2 := keepCell hb1 (keepCell hb d2)
        have H1 := chain hb hb1 hs
        have O1 := Lib.hid (own_below HO.out hb1)
        clear d1 d2 hb1
        go_wp2_with fail
        go_region_law (first
          | (refine step_append_lies _ (by rfl) _ _ _ (by rfl) w.heap.size 30 i0 _ 2 16 Try.underlying23 hi0 hz0 hz1 hz2 rfl (by omega) _ outs.length (flat outs) (by rfl) O2.out
              ⟨g2, 0, none⟩ (coverF y1 y2).length c2 (flat (coverF y1 y2)) (by rfl) (flat_length _) (own_rd N2.out).news (flat_one _) (by omega) (by unfold maxLen; omega) (by omega) HZ2.out _ rfl ?_; intro g3 c3 w3 own3 hg3 hat3 hlt3; have O3 := Lib.hid own3; have G3 := Lib.hid hg3; clear own3 hg3 hat3 hlt3)
          | (go_simp; go_at_call 53; refine (CL.out _).mono ?_; rintro e w2 ⟨A2, c2, rfl, own2, hb2⟩; obtain ⟨g2, rfl⟩ := own_some own2 (by omega); have O2 := Lib.hid (own_below (w := w1.drew) O1.out hb2); have N2 := Lib.hid own2; have HZ2 := Lib.hid (show w.heap.size ≤ w2.heap.size from Nat.le_trans H1.size hb2.size); have B2 := Lib.hid hb2; clear own2 hb2))
        all_goals
          go_wp2
          go_roundg (gk - 1)
          case measure => have := HG.out; omega
          case rel =>
            have hl2 : (outs ++ coverF y1 y2).length = outs.length + (coverF y1 y2).length := List.length_append
            refine ⟨k + 1, outs ++ coverF y1 y2, some ⟨g3, 0, none⟩, c3, by have := HG.out; omega, by go_num, by rw [hl2], HT.out.symm, ?_, ?_⟩
            · rw [hl2, flat_append]; exact O3.out
            · exact (chain H1 (show Below w1.heap.size w1 w2 from (below_drewN (Below.refl w1.heap.size w1) 1).trans B2.out) H1.size).grown G3.out HZ2.out fun k hk => (O2.out.lt k hk).1
      · obtain rfl : k = xs.length := by omega
        go_wp2
        go_ret
        have he := HEQ.out
        rw [List.take_of_length_le (Nat.le_refl _)] at he
        rw [HC.out, ← he]
        exact ⟨A', c', rfl, HO.out, hb⟩
end Go.Proofs.Ytmidegoedgmcnaa
