/-
  WALK: impl.SpansOf: 'ofV'.
-/
import Derived.Test.YtmidegoedgmcnaaEdges
import Derived.Test.YtmidegoedgmcnaaSpansValid
import Derived.Test.YtmidegoedgmcnaaGrow
namespace Go.Proofs.Ytmidegoedgmcnaa
open Go.ChangeShapes Go.WideShapes Go.ChangeAt Go.RowKit Go.Sort Pf

theorem infoEdgeE : (Try.prog.info? 75).map (fun i => (i.zero, i.size, i.bytes)) = some (some (.agg #[.int .i64 0, .int .i64 0]), 2, 16) := by kernel_rfl

theorem rd_row {w w' : World} {g n c : Nat} {xs : PS} {row : Option Nat} (h : Rd w (some ⟨g, 0, none⟩) n c xs) (hg : w.grownBy w' row) (hne : row ≠ some g) : Rd w' (some ⟨g, 0, none⟩) n c xs := by
  obtain ⟨h1, h2, h3, h4⟩ := h
  refine ⟨h1, h2, h3, fun hn => ?_⟩
  obtain ⟨b, o, e, hb, hc⟩ := h4 hn
  injection e with e
  injection e with e1 e2
  subst e1 e2
  exact ⟨g, 0, rfl, Nat.lt_of_lt_of_le hb hg.size, fun k x hx => ⟨grown_cell hg (hc k x hx).1 hne, grown_cell hg (hc k x hx).2 hne⟩⟩

/-- slices.SortFunc of boundaries. -/
theorem sortEdges_any (lo g n c : Nat) (S : PS) (w : World) (own : w.ownsRow lo 75 2 (.slice (some ⟨g, 0, none⟩) n c) n (flat S)) (hn : n ≤ 1000) :
    Calls Try.prog 62 #[.slice (some ⟨g, 0, none⟩) n c, .func (.func 63) #[] #[]] w fun e w' =>
      e = .returned (.tuple #[]) ∧ ∃ S' : PS, S'.Perm S ∧ (S'.Pairwise fun a b => eLe a b = true) ∧ Rd w' (some ⟨g, 0, none⟩) n c S' ∧ w.grownBy w' (some g) := by
  have hrd := own_rd own
  obtain rfl : S.length = n := hrd.len
  have hH := holds_own own
  have hb : g < w.heap.size := (own.lt g rfl).2
  have eg : ∀ args w, (callFunc 63 args).run Try.prog w = .ok (.enter 63 args) w := enters_of Try.func63 (by kernel_rfl) rfl
  have hcon := AnyQ.slices_SortFunc_total laySort 2 Try.isAgg75 Try.sizeOf75 encP (fun _ => rfl) encP_one eCmp eSwo 63 #[] g 0 c S.toArray w eg (edgeLays _ _ _ _) hH hb (by simp; omega) eTotal
  refine hcon.mono ?_
  rintro e w' ⟨rfl, m, os, rfl⟩
  have hp := List.mergeSort_perm S (fun x y => !(ltOf eCmp y x))
  exact ⟨rfl, _, hp, eLe_sorted S, rd_sorted hH hb hp.length_eq rfl hrd.2.1 hrd.2.2.1, grown_sorted⟩

theorem edgesF_take {xs : PS} {k : Nat} (hk : k < xs.length) : edgesF (xs.take (k + 1)) = edgesF (xs.take k) ++ [(xs[k].1, 1), (xs[k].2 + 1, -1)] := by
  rw [List.take_succ_eq_append_getElem hk, edgesF_append]; rfl
theorem flat_push2' (xs : PS) (x y z u : Int) : flat xs ++ [Value.int .i64 x, Value.int .i64 y, Value.int .i64 z, Value.int .i64 u] = flat (xs ++ [(x, y), (z, u)]) := by rw [flat_append]; rfl
theorem news_four' {W : World} {t : TypeId} {g : Nat} (hg : g = W.heap.size) (x y z u : Int) : ∀ (j : Nat) (v : Value), [Value.int .i64 x, Value.int .i64 y, Value.int .i64 z, Value.int .i64 u][j]? = some v → (W.alloc (.cells #[.int .i64 x, .int .i64 y, .int .i64 z, .int .i64 u] t)).cell? ((⟨g, 0, none⟩ : Addr).add j) = some v := by
  subst hg
  intro j v hj
  match j, hj with
  | 0, hj => simp at hj; subst hj; simp [Addr.add]
  | 1, hj => simp at hj; subst hj; simp [Addr.add]
  | 2, hj => simp at hj; subst hj; simp [Addr.add]
  | 3, hj => simp at hj; subst hj; simp [Addr.add]
theorem sweepE_cons (d st : Int) (e : Int × Int) (r : PS) : sweepE d st (e :: r) = if d + e.2 = 0 then ((if d = 0 then e.1 else st), e.1 - 1) :: sweepE (d + e.2) (if d = 0 then e.1 else st) r else sweepE (d + e.2) (if d = 0 then e.1 else st) r := rfl

set_option maxRecDepth 100000 in
set_option maxHeartbeats 4000000 in
theorem iSpansOf_any (A : Option Addr) (n c : Nat) (xs : PS) (top : Int) (w : World) (h : Rd w A n c xs) :
    Calls Try.prog 43 #[.slice A n c, .int .i64 top] w (Owns 32 (ofV xs top) w) := by
  obtain rfl : xs.length = n := h.len
  have CT := fun W => topValid_any top W
  cases hT : topOk top with
  | false =>
    rw [hT] at CT
    have hno : ofV xs top = [] := ofV_no (by simp [ofOk, hT])
    rw [hno]
    have CT := Lib.hid CT
    clear hno hT h
    go_enter Try.func43, Try.ntmps43
    go_wp2_with (go_at_call 50; refine (CT.out _).mono ?_; rintro e w' ⟨rfl, rfl⟩)
    go_ret
    exact owns_nil (Below.refl _ _)
  | true =>
    rw [hT] at CT
    have CT := Lib.hid CT
    have htb : 0 ≤ top ∧ top ≤ 65535 := by simpa [topOk] using hT
    obtain ⟨ht0, ht1⟩ := htb
    by_cases hl : xs.length ≤ 40
    · have hli : decide ((40 : Int) < ((xs.length : Nat) : Int)) = false := by simp; omega
      obtain ⟨i0, hi, hz0, hz1, hz2⟩ := info_parts infoSpanE
      obtain ⟨i1, hi1, hy0, hy1, hy2⟩ := info_parts infoEdgeE
      have hbytes : i1.bytes * (2 * xs.length) ≤ 281474976710656 := by rw [hy2]; omega
      have hmax : 2 * xs.length ≤ maxLen := by unfold maxLen; omega
      clear hT
      go_enter Try.func43, Try.ntmps43
      go_wp2_with (first
        | (go_at_call 50; refine (CT.out _).mono ?_; rintro e w' ⟨rfl, rfl⟩)
        | (at_make; refine wpList_make_own _ rfl (.const (.int .i64 0)) (.tmp 23) 73 rfl w.heap.size 75 i1 _ 2 Try.underlying73 hi1 hy0 hy1 .i64 .i64 _ (2 * xs.length) rfl rfl (by omega) hbytes hmax (Nat.le_refl _) ?_; intro w1 own1 hg1; have HO1 := Lib.hid own1; have HG1 := Lib.hid hg1; clear own1 hg1))
      have hb1 : Below w.heap.size w w1 := (Below.refl _ _).grown HG1.out (Nat.le_refl _) (by simp)
      have HB1 := Lib.hid hb1
      clear hb1
      go_loopw [5, 27] (fun s5 i wr => ∃ (k g c' : Nat) (outs : PS), k ≤ xs.length ∧ i = .int .i64 k ∧ s5 = .slice (some ⟨g, 0, none⟩) outs.length c' ∧
          wr.ownsRow w.heap.size 75 2 (.slice (some ⟨g, 0, none⟩) outs.length c') outs.length (flat outs) ∧ outs = edgesF (xs.take k) ∧ (∀ s, s ∈ xs.take k → 0 ≤ s.1 ∧ s.1 ≤ s.2 ∧ s.2 ≤ top) ∧ Below w.heap.size w wr)
        (fun _ i _ => xs.length - (intOf i).toNat)
      case atStart => exact ⟨0, _, _, [], Nat.zero_le _, rfl, rfl, HO1.out, rfl, by simp, HB1.out⟩
      case round =>
        clear HO1 HG1 HB1
        obtain ⟨k, g, c', outs, hk, rfl, rfl, own, heq, hall, hb⟩ := hrel
        have hs := hb.size
        by_cases hkn : k < xs.length
        · obtain ⟨b, o, rfl, hbl, hc0⟩ := (h.below hb).at_ hkn
          obtain ⟨d1, d2⟩ := hc0 hkn
          have hET := edgesF_take hkn
          rw [← heq] at hET
          have holen : outs.length ≤ 80 := by rw [heq, edgesF_length, List.length_take]; omega
          have HS := Lib.hid (show (0 ≤ xs[k].1 ∧ xs[k].1 ≤ xs[k].2 ∧ xs[k].2 ≤ top) → ∀ s, s ∈ xs.take (k + 1) → 0 ≤ s.1 ∧ s.1 ≤ s.2 ∧ s.2 ≤ top from fun hx s hm => by
            rw [List.take_succ_eq_append_getElem hkn, List.mem_append, List.mem_singleton] at hm
            rcases hm with hm | rfl
            · exact hall s hm
            · exact hx)
          have HBD := Lib.hid (show ¬ (0 ≤ xs[k].1 ∧ xs[k].1 ≤ xs[k].2 ∧ xs[k].2 ≤ top) → ofV xs top = [] from fun hx => ofV_no (by
            rw [← Bool.not_eq_true, ofOk_iff]; rintro ⟨-, -, hh⟩; exact hx (hh _ (List.getElem_mem hkn))))
          generalize xs[k] = y at d1 d2 hET HS HBD
          obtain ⟨x1, x2⟩ := y
          simp only at d1 d2 hET HS HBD
          have HET := Lib.hid hET
          have HO := Lib.hid own
          have hki : (k : Int) < xs.length := by omega
          have hk0 : (0 : Int) ≤ k := by omega
          have H0 := Lib.hid (hb.alloc hs (.cells #[.int .i64 x1, .int .i64 x2] 32))
          clear heq own hc0 hall h hET
          by_cases hP1 : x1 < 0
          · go_wp2
            go_ret
            rw [HBD.out (by omega)]
            exact owns_nil H0.out
          · have hP1' : 0 ≤ x1 := by omega
            clear hP1
            by_cases hP2 : x2 < x1
            · go_wp2
              go_ret
              rw [HBD.out (by omega)]
              exact owns_nil H0.out
            · have hP2' : x1 ≤ x2 := by omega
              clear hP2
              by_cases hP3 : top < x2
              · go_wp2
                go_ret
                rw [HBD.out (by omega)]
                exact owns_nil H0.out
              · have hP3' : x2 ≤ top := by omega
                clear hP3
                go_wp2_with (first
                  | (at_builtin; refine wpList_append_own _ rfl (.tmp 47) (.tmp 55) 73 rfl w.heap.size 75 i1 _ 2 16 Try.underlying73 hi1 hy0 hy1 hy2 rfl (by decide) _ _ _ rfl ((HO.out.alloc _).alloc _) ⟨wr.heap.size + 1, 0, none⟩ 2 2 [.int .i64 x1, .int .i64 1, .int .i64 (x2 + 1), .int .i64 (-1)] rfl rfl (news_four' (by simp) _ _ _ _) (by intro u hu; simp at hu; rcases hu with rfl | rfl | rfl | rfl <;> rfl) (by unfold maxLen; omega) (by omega) (by simp; omega) ?_; intro v1 w3 own3 hg3 _; have HO3 := Lib.hid own3; have HG3 := Lib.hid hg3; clear own3 hg3))
                obtain ⟨A3, c3, hv1⟩ := own_slice HO3.out
                subst hv1
                obtain ⟨g3, rfl⟩ := own_some HO3.out (by omega)
                have hlb : ∀ r, (Value.slice (some ⟨g, 0, none⟩) outs.length c').ownBlock = some r → w.heap.size ≤ r := fun r hr => (HO.out.lt r hr).1
                have hlen : outs.length + 2 = (edgesF (xs.take (k + 1))).length := by rw [HET.out]; simp
                go_roundw
                case rel =>
                  refine ⟨k + 1, g3, c3, edgesF (xs.take (k + 1)), by omega, by go_num, by rw [hlen], ?_, rfl, HS.out ⟨hP1', hP2', hP3'⟩, ?_⟩
                  · rw [← hlen, HET.out, ← flat_push2']; exact HO3.out
                  · exact (H0.out.alloc (by simp; omega) _).grown HG3.out (by simp; omega) hlb
                case measure => simp [intOf]; omega
        · obtain rfl : k = xs.length := by omega
          rw [List.take_of_length_le (Nat.le_refl _)] at heq hall
          have HOK := Lib.hid (show ofOk xs top = true from ofOk_iff.2 ⟨⟨ht0, ht1⟩, hl, hall⟩)
          have holen : outs.length ≤ 80 := by rw [heq, edgesF_length]; omega
          have hgb : w.heap.size ≤ g := (own.lt g rfl).1
          have hgr : g < wr.heap.size := (own.lt g rfl).2
          have CS := Lib.hid (sortEdges_any w.heap.size g outs.length c' outs wr own (by omega))
          have HQ := Lib.hid heq
          clear own heq hall h
          go_wp2_with fail
          refine (CS.out).mono ?_
          rintro e w2 ⟨rfl, S, hperm, hsort, hrd, hg2⟩
          have HSW := Lib.hid (sweep_edges HOK.out (HQ.out ▸ hperm) hsort 0)
          have hmem : ∀ e, e ∈ S → (e.2 = 1 ∨ e.2 = -1) ∧ 0 ≤ e.1 ∧ e.1 ≤ 65536 := fun e he => by
            obtain ⟨s, hm, hse⟩ := edges_mem.1 ((HQ.out ▸ hperm).mem_iff.1 he)
            have h3 := (ofOk_iff.1 HOK.out).2.2 s hm
            rcases hse with rfl | rfl
            · exact ⟨.inl rfl, by simp only; omega, by simp only; omega⟩
            · exact ⟨.inr rfl, by simp only; omega, by simp only; omega⟩
          have HM := Lib.hid hmem
          have hS := hrd.len
          have HRD := Lib.hid hrd
          have H2 := Lib.hid (hb.grown hg2 hs (fun r hr => by cases hr; exact hgb))
          have hs2 := H2.out.size
          have hgw : g < w2.heap.size := Nat.lt_of_lt_of_le hgr hg2.size
          have HSL := Lib.hid hS
          clear hmem hrd hg2 hsort hperm CS hb hS
          go_wp2
          go_loopw [8, 9, 10, 62] (fun s8 s9 s10 i wq => ∃ (k c2 : Nat) (B : Option Addr) (out : PS) (d st : Int), k ≤ outs.length ∧ i = .int .i64 k ∧ s9 = .int .i64 d ∧ s10 = .int .i64 st ∧ s8 = .slice B out.length c2 ∧
              wq.ownsRow w2.heap.size 32 2 (.slice B out.length c2) out.length (flat out) ∧ out ++ sweepE d st (S.drop k) = ofV xs top ∧ out.length ≤ k ∧ -(k : Int) ≤ d ∧ d ≤ k ∧ 0 ≤ st ∧ st ≤ 65536 ∧
              Rd wq (some ⟨g, 0, none⟩) outs.length c' S ∧ Below w.heap.size w wq ∧ w2.heap.size ≤ wq.heap.size)
            (fun _ _ _ i _ => outs.length - (intOf i).toNat)
          case atStart => exact ⟨0, 0, none, [], 0, 0, Nat.zero_le _, rfl, rfl, rfl, rfl, ⟨rfl, .inl ⟨rfl, rfl⟩⟩, HSW.out, Nat.le_refl _, by omega, by omega, by omega, by omega, HRD.out, H2.out, Nat.le_refl _⟩
          case round =>
            obtain ⟨k, c2, B, out, d, st, hk, rfl, rfl, rfl, rfl, own, hval, hol, hd0, hd1, hst0, hst1, hrd, hb, hsz⟩ := hrel
            clear HSW HRD
            by_cases hkn : k < outs.length
            · obtain ⟨b, o, e, hbl, hc0⟩ := hrd.at_ hkn
              injection e with e
              injection e with e1 e2
              subst e1 e2
              have hlS : k < S.length := by have := HSL.out; omega
              obtain ⟨q1, q2⟩ := hc0 hlS
              simp only [Nat.zero_add] at q1 q2
              have hme := HM.out _ (List.getElem_mem hlS)
              rw [List.drop_eq_getElem_cons hlS, sweepE_cons] at hval
              generalize S[k] = y at q1 q2 hme hval
              obtain ⟨p, s⟩ := y
              simp only at q1 q2 hme hval
              obtain ⟨hs1, hp0, hp1⟩ := hme
              have hs0 : -1 ≤ s ∧ s ≤ 1 := by omega
              obtain ⟨hs2, hs3⟩ := hs0
              have HO := Lib.hid own
              have HV := Lib.hid hval
              have HR := Lib.hid (hrd.alloc (.cells #[.int .i64 p, .int .i64 s] 75))
              have HB := Lib.hid (hb.alloc hb.size (.cells #[.int .i64 p, .int .i64 s] 75))
              have hki : (k : Int) < outs.length := by omega
              have hk0 : (0 : Int) ≤ k := by omega
              have hw0 := hb.size
              have hS1 := Lib.hid hs1
              clear own hval hrd hb hc0 hs1
              by_cases hd : d = 0
              · subst hd
                have hne : ¬ (0 : Int) + s = 0 := by have := hS1.out; omega
                have hneb : ((s : Int) == 0) = false := by have := hS1.out; simp; omega
                have HV2 := Lib.hid (show out ++ sweepE s p (S.drop (k + 1)) = ofV xs top by have := HV.out; rwa [if_neg hne, if_pos rfl, Int.zero_add] at this)
                clear hne
                go_wp2
                go_roundw
                case rel => exact ⟨k + 1, c2, B, out, s, p, by omega, by go_num, by go_num, by go_num, rfl, HO.out.alloc _, HV2.out, by omega, by omega, by omega, hp0, hp1, HR.out, HB.out, by simp; omega⟩
                case measure => simp [intOf]; omega
              · have hdb : ((d : Int) == 0) = false := by simpa using hd
                by_cases hz : d + s = 0
                · have hzb : ((d + s : Int) == 0) = true := by simpa using hz
                  have HV2 := Lib.hid (show (out ++ [(st, p - 1)]) ++ sweepE (d + s) st (S.drop (k + 1)) = ofV xs top by have := HV.out; rw [if_pos hz, if_neg hd] at this; simpa using this)
                  have HZ := Lib.hid hz
                  clear hz hd
                  go_wp2_with (first
                    | (at_builtin; go_loud (refine wpList_append_own _ rfl (.tmp 76) (.tmp 82) 25 rfl w2.heap.size 32 i0 _ 2 16 Try.underlying25 hi hz0 hz1 hz2 rfl (by decide) _ _ _ rfl ((HO.out.alloc _).alloc _) ⟨wr.heap.size + 1, 0, none⟩ 1 1 [.int .i64 st, .int .i64 (p - 1)] rfl rfl (news_at (by simp) _ _) (news_one _ _) (by unfold maxLen; omega) (by omega) (by simp; omega) ?_); intro v1 w3 own3 hg3 _; have HO3 := Lib.hid own3; have HG3 := Lib.hid hg3; clear own3 hg3))
                  obtain ⟨A3, c3, hv1⟩ := own_slice HO3.out
                  subst hv1
                  have hlb : ∀ r, (Value.slice B out.length c2).ownBlock = some r → w2.heap.size ≤ r := fun r hr => (HO.out.lt r hr).1
                  have hz3 := HG3.out.size
                  simp at hz3
                  go_roundw
                  case rel =>
                    have hlen : (out ++ [(st, p - 1)]).length = out.length + 1 := by simp
                    refine ⟨k + 1, c3, A3, out ++ [(st, p - 1)], d + s, st, by omega, by go_num, by go_num, by go_num, by rw [hlen], ?_, HV2.out, by omega, by omega, by omega, hst0, hst1, ?_, ?_, by omega⟩
                    · rw [hlen, ← flat_push]; exact HO3.out
                    · exact rd_row (HR.out.alloc _) HG3.out (fun e => by have := hlb _ e; omega)
                    · exact (HB.out.alloc (by simp; omega) _).grown HG3.out (by simp; omega) (fun r hr => by have := hlb r hr; have := H2.out.size; omega)
                  case measure => simp [intOf]; omega
                · have hzb : ((d + s : Int) == 0) = false := by simpa using hz
                  have HV2 := Lib.hid (show out ++ sweepE (d + s) st (S.drop (k + 1)) = ofV xs top by have := HV.out; rwa [if_neg hz, if_neg hd] at this)
                  clear hz hd
                  go_wp2
                  go_roundw
                  case rel => exact ⟨k + 1, c2, B, out, d + s, st, by omega, by go_num, by go_num, by go_num, rfl, HO.out.alloc _, HV2.out, by omega, by omega, by omega, hst0, hst1, HR.out, HB.out, by simp; omega⟩
                  case measure => simp [intOf]; omega
            · obtain rfl : k = outs.length := by omega
              rw [List.drop_of_length_le (by have := HSL.out; omega)] at hval
              have HV := Lib.hid (show out = ofV xs top by simpa [sweepE] using hval)
              have HO := Lib.hid own
              have HB := Lib.hid hb
              clear hval own hb hrd
              go_wp2
              go_ret
              rw [← HV.out]
              exact ⟨B, c2, rfl, own_mono HO.out H2.out.size, HB.out⟩
    · have hli : decide ((40 : Int) < ((xs.length : Nat) : Int)) = true := by simp; omega
      have hno : ofV xs top = [] := ofV_no (by rw [← Bool.not_eq_true, ofOk_iff]; rintro ⟨-, b, -⟩; omega)
      rw [hno]
      clear hno hT hl h
      go_enter Try.func43, Try.ntmps43
      go_wp2_with (go_at_call 50; refine (CT.out _).mono ?_; rintro e w' ⟨rfl, rfl⟩)
      go_ret
      exact owns_nil (Below.refl _ _)
end Go.Proofs.Ytmidegoedgmcnaa
