/-
  WALKS: laws.toPrefix, toPrefixS.
-/
import Derived.Test.YtmidegoedgmcnaaRows
import Derived.Test.YtmidegoedgmcnaaOwn
import Derived.WalkLawsBesides
import Derived.BigQuiet
import Derived.Deep.QuietTactic
import Derived.Lib.QuietBelow
import Derived.Outline
import Derived.Handy
namespace Go.Proofs.Ytmidegoedgmcnaa
open Go.ChangeShapes Go.WideShapes Go.ChangeAt Go.RowKit Go.Sort Pf

theorem infoPrefix : (Try.prog.info? 30).map (fun i => (i.zero, i.size, i.bytes)) = some (some (.agg #[.int .i64 0, .int .i64 0]), 2, 16) := by kernel_rfl

set_option maxHeartbeats 400000 in
theorem toPrefix_any (a b : Int) (w : World) :
    Calls Try.prog 57 #[.agg #[.int .i64 a, .int .i64 b]] w fun e w' => e = .returned (.agg #[.int .i64 a, .int .i64 b]) ∧ Below w.heap.size w w' := by
  go_enter Try.func57, Try.ntmps57
  go_wp2
  refine bodyPost_ret (v := .agg #[.int .i64 a, .int .i64 b]) (by simp [results, Try.results57, go_sem]) rfl ⟨rfl, ?_⟩
  exact below_three _ _ _ _

set_option maxHeartbeats 400000 in
theorem toPrefixS_any (A : Option Addr) (n c : Nat) (xs : PS) (w : World) (h : Rd w A n c xs) (hn : n ≤ 1048576) :
    Calls Try.prog 34 #[.slice A n c] w (Owns 30 xs w) := by
  have hlen := h.len
  obtain ⟨i0, hi, hz0, hz1, hz2⟩ := info_parts infoPrefix
  have hbytes : i0.bytes * n ≤ 281474976710656 := by rw [hz2]; omega
  have hmax : n ≤ maxLen := by unfold maxLen; omega
  have hzs : xs.length = (List.replicate n ((0, 0) : Int × Int)).length := by simp [hlen]
  obtain ⟨zs, hzsd⟩ : ∃ zs, zs = List.replicate n ((0, 0) : Int × Int) := ⟨_, rfl⟩
  rw [← hzsd] at hzs
  have hzl := zeros_toList n
  rw [← hzsd] at hzl
  have HZL := Lib.hid hzl
  have HLEN := Lib.hid hlen
  have HZS := Lib.hid hzs
  clear hzl hlen hzs hzsd
  go_enter Try.func34, Try.ntmps34
  go_wp2_with (first
    | (at_make; refine wpList_make_full _ rfl (.tmp 6) (.tmp 6) 23 rfl w.heap.size 30 i0 _ 2 Try.underlying23 hi hz0 hz1 .i64 .i64 n n n rfl rfl rfl rfl hbytes hmax (Nat.le_refl _) ?_; intro w1 own1 hg1))
  have hb1 : Below w.heap.size w w1 := (Below.refl _ _).grown hg1 (Nat.le_refl _) (by simp)
  have own1' : w1.ownsRow w.heap.size 30 2 (.slice (some ⟨w.heap.size, 0, none⟩) n n) n (flat zs) := by rw [← HZL.out]; exact own1
  clear own1 hg1
  go_loopw [4] (fun i wr => ∃ k : Nat, k ≤ n ∧ i = .int .i64 k ∧ wr.ownsRow w.heap.size 30 2 (.slice (some ⟨w.heap.size, 0, none⟩) n n) n (flat (part xs zs k)) ∧ Below w.heap.size w wr)
    (fun i _ => n - (intOf i).toNat)
  case atStart => exact ⟨0, Nat.zero_le _, rfl, by rw [part_zero]; exact own1', hb1⟩
  case round =>
    obtain ⟨k, hk, rfl, own, hb⟩ := hrel
    by_cases hkn : k < n
    · have hR := h.below hb
      obtain ⟨b, o, rfl, hbl, hc0⟩ := hR.at_ hkn
      have hlx : k < xs.length := by have := HLEN.out; omega
      obtain ⟨c1, c2⟩ := hc0 hlx
      obtain ⟨x, hx⟩ : ∃ x, x = xs[k] := ⟨_, rfl⟩
      rw [← hx] at c1 c2
      obtain ⟨x1, x2⟩ := x
      simp only at c1 c2
      have HX := Lib.hid hx
      have HO := Lib.hid own
      have HH := Lib.hid h
      have hs := hb.size
      have hgl : w.heap.size < wr.heap.size := (own.lt _ rfl).2
      clear hc0 hR hx own h
      go_wp2_with fail
      refine (toPrefix_any x1 x2 _).mono ?_
      rintro e w2 ⟨rfl, hb2⟩
      have own2 := own_below HO.out hb2
      have H2 := chain hb hb2 hs
      have hpl : k < (part xs zs k).length := by rw [part_length HZS.out (by omega)]; omega
      have d1 := (own2.cellAt (k * 2) (by omega)).trans (flat_fst _ k _ (List.getElem?_eq_getElem hpl))
      have d2 := (own2.cellAt (k * 2 + 1) (by omega)).trans (flat_snd _ k _ (List.getElem?_eq_getElem hpl))
      generalize (part xs zs k)[k] = y at d1 d2
      have e1 := own2.frozenAt (k * 2)
      have e2 := own2.frozenAt (k * 2 + 1)
      have hz : w.heap.size < w2.heap.size := (own2.lt _ rfl).2
      have HO2 := Lib.hid own2
      clear HO hb2 own2 hpl hb
      go_wp2
      go_roundw
      case rel =>
        have s1 := (HO2.out.stored (k * 2) (.int .i64 x1)).1
        have s2 := (s1.stored (k * 2 + 1) (.int .i64 x2)).1
        rw [flat_set _ _ _ _ (by rw [part_length HZS.out (by omega)]; omega), HX.out, part_step HZS.out hlx] at s2
        exact ⟨k + 1, by omega, by go_num, s2, (H2.setCell (by simp) _).setCell (by simp) _⟩
      case measure => simp [intOf]; omega
    · obtain rfl : k = n := by omega
      have hp : part xs zs k = xs := by rw [← HLEN.out]; exact part_all HZS.out
      rw [hp] at own
      have HO := Lib.hid own
      have HP := Lib.hid h
      clear own hp h
      go_wp2
      go_ret
      have hl := HLEN.out
      subst hl
      exact owns_intro HO.out hb

end Go.Proofs.Ytmidegoedgmcnaa
