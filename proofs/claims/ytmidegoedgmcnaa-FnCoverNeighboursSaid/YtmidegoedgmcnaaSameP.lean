/-
  WALK: laws.samePrefixes: are two lists of prefixes equal?
-/
import Derived.Test.YtmidegoedgmcnaaRows
import Derived.Test.YtmidegoedgmcnaaSame
import Derived.WalkLawsBesides
import Derived.BigQuiet
import Derived.Deep.QuietTactic
import Derived.Outline
import Derived.Handy
import Derived.Deep.LoopGhost
import Derived.Laws.StructEq
namespace Go.Proofs.Ytmidegoedgmcnaa
open Go.ChangeShapes Go.WideShapes Go.ChangeAt Go.RowKit Go.Sort Pf
set_option maxRecDepth 20000

theorem pfxGuard : Try.prog.eqGuardType Try.prog.depth 30 = false := by kernel_rfl
/-- '!=' on two prefixes. -/
theorem neq_pfx (x1 x2 y1 y2 : Int) (W : World) : (binOp .neq 30 (.agg #[.int .i64 x1, .int .i64 x2]) (.agg #[.int .i64 y1, .int .i64 y2])).run Try.prog W = .ok (.bool (!(x1 == y1 && x2 == y2))) W := by
  have e1 : Try.prog.underlying 30 = some (.struct (Try.prog.fieldsOf 30)) := by kernel_rfl
  have e2 : Try.prog.stoodInHeld 30 = false := by kernel_rfl
  rw [run_neq_struct, run_equalIn_agg W 9999 _ _ _ e1 e2]
  have e4 := Try.underlying30
  have e5 := Try.underlying3
  simp only [Program.fieldsOf, e4]
  simp [Op.eqFields, go_sem, e5]
  by_cases h1 : x1 = y1 <;> by_cases h2 : x2 = y2 <;> simp [h1, h2]

set_option maxHeartbeats 1000000 in
theorem samePrefixes_any (A : Option Addr) (n c : Nat) (xs : PS) (B : Option Addr) (m d : Nat) (ys : PS) (w : World) (h : Rd w A n c xs) (h' : Rd w B m d ys) :
    Calls Try.prog 20 #[.slice A n c, .slice B m d] w fun e w' => e = .returned (.bool (decide (xs = ys))) ∧ Below w.heap.size w w' := by
  have hmax : n ≤ maxLen := Nat.le_trans h.2.1 h.2.2.1
  unfold maxLen at hmax
  obtain rfl : xs.length = n := h.len
  obtain rfl : ys.length = m := h'.len
  by_cases hl : xs.length = ys.length
  · have HL := Lib.hid hl
    have hlb : (((xs.length : Nat) : Int) != ((ys.length : Nat) : Int)) = false := by rw [hl]; simp
    have hlb2 : (xs.length != ys.length) = false := by rw [hl]; simp
    have HR := Lib.hid h
    have HR' := Lib.hid h'
    clear hl h h'
    go_enter Try.func20, Try.ntmps20
    go_wp2
    go_loopg [5] xs.length (fun g i wr => ∃ k : Nat, g + k = xs.length ∧ i = .int .i64 k ∧ xs.take k = ys.take k ∧ Below w.heap.size w wr)
    case atStart => exact ⟨0, by omega, rfl, by simp, Below.refl _ _⟩
    case round =>
      obtain ⟨k, hg, rfl, ht, hb⟩ := hrel
      have HG := Lib.hid hg
      have HT := Lib.hid ht
      have hk : k ≤ xs.length := by omega
      clear hg ht
      by_cases hkn : k < xs.length
      · have hky : k < ys.length := by have := HL.out; omega
        obtain ⟨ba, oa, hA, hba, hca⟩ := (HR.out.below hb).at_ hkn
        obtain ⟨bb, ob, hB, hbb, hcb⟩ := (HR'.out.below hb).at_ hky
        subst hA hB
        obtain ⟨c1, c2⟩ := hca hkn
        obtain ⟨d1, d2⟩ := hcb hky
        have HN := Lib.hid (fun (e : xs[k] = ys[k]) => take_next HT.out hkn hky e)
        have HF := Lib.hid (show ¬ xs[k] = ys[k] → ¬ xs = ys from fun hne e => hne (by subst e; rfl))
        generalize xs[k] = x at c1 c2 HN HF
        generalize ys[k] = y at d1 d2 HN HF
        obtain ⟨x1, x2⟩ := x
        obtain ⟨y1, y2⟩ := y
        simp only at c1 c2 d1 d2
        have hki : (k : Int) < xs.length := by omega
        have hki' : (k : Int) < ys.length := by omega
        have hk0 : (0 : Int) ≤ k := by omega
        clear hca hcb
        have hgd := pfxGuard
        by_cases he : x1 = y1 ∧ x2 = y2
        · have hq : (!(x1 == y1 && x2 == y2)) = false := by simp [he.1, he.2]
          have hrun := fun W => (neq_pfx x1 x2 y1 y2 W).trans (by rw [hq])
          have HE := Lib.hid (HN.out (Prod.ext he.1 he.2))
          clear hq he
          go_wp2_with fail
          go_quiet (fail)
          clear hrun
          go_wp2
          go_roundg (xs.length - (k + 1))
          case measure => have := HG.out; omega
          case rel => exact ⟨k + 1, by omega, by go_num, HE.out, below_drewN hb _⟩
        · have hq : (!(x1 == y1 && x2 == y2)) = true := by
            simp only [Bool.not_eq_true', Bool.and_eq_false_iff, beq_eq_false_iff_ne]
            by_cases h1 : x1 = y1
            · right; exact fun h2 => he ⟨h1, h2⟩
            · exact .inl h1
          have hrun := fun W => (neq_pfx x1 x2 y1 y2 W).trans (by rw [hq])
          have HNE := Lib.hid (HF.out (fun e => he ⟨congrArg Prod.fst e, congrArg Prod.snd e⟩))
          clear hq he
          go_wp2_with fail
          go_quiet (fail)
          clear hrun
          go_wp2
          go_ret
          exact ⟨ret_bool (by rw [decide_eq_false HNE.out]), below_drewN hb _⟩
      · obtain rfl : k = xs.length := by omega
        have he := HT.out
        rw [List.take_of_length_le (Nat.le_refl _), List.take_of_length_le (by have := HL.out; omega)] at he
        have HE := Lib.hid he
        clear he
        go_wp2
        go_ret
        exact ⟨ret_bool (by rw [decide_eq_true HE.out]), hb⟩
  · have hlb : (((xs.length : Nat) : Int) != ((ys.length : Nat) : Int)) = true := by simp; omega
    have hlb2 : (xs.length != ys.length) = true := by simp [hl]
    have HNE := Lib.hid (show ¬ xs = ys from fun e => hl (by rw [e]))
    clear h h' hl
    go_enter Try.func20, Try.ntmps20
    go_wp2
    go_ret
    exact ⟨ret_bool (by rw [decide_eq_false HNE.out]), Below.refl _ _⟩
end Go.Proofs.Ytmidegoedgmcnaa
