/-
  WALK: impl.sweepSpans: the one list of the numbers that 'keep' takes.
-/
import Derived.Test.YtbonkolgbcmaoaaStretch
import Derived.Test.YtbonkolgbcmaoaaApp
import Derived.Deep.RegionWith
import Derived.Deep.LoopGhost
import Derived.Deep.CutBlock
import Derived.Deep.DeepCutAuto
namespace Go.Proofs.Ytbonkolgbcmaoaa
open Go.ChangeShapes Go.WideShapes Go.ChangeAt Go.RowKit Go.Sort Pf

/-- What holds of memory while the sweep goes on. -/
def SwM (t : TypeId) (w : World) (A : Option Addr) (c : Nat) (o : PS) (wr : World) : Prop := wr.ownsRow w.heap.size t 2 (.slice A o.length c) o.length (flat o) ∧ Below w.heap.size w wr

/-- A store into a pair's second number. -/
theorem flat_set_snd : ∀ (xs : PS) (k : Nat) (a b : Int) (hk : k < xs.length), xs[k].1 = a → (flat xs).set (k * 2 + 1) (.int .i64 b) = flat (xs.set k (a, b))
  | [], k, a, b, h, _ => by simp at h
  | x :: xs, 0, a, b, h, e => by
    simp only [List.getElem_cons_zero] at e
    simp [flat_cons, e]
  | x :: xs, k + 1, a, b, h, e => by
    have := flat_set_snd xs k a b (by simpa using h) (by simpa using e)
    rw [show (k + 1) * 2 + 1 = k * 2 + 1 + 1 + 1 from by omega, flat_cons, List.set_cons_succ, List.set_cons_succ, this, List.set_cons_succ, flat_cons]

set_option maxRecDepth 100000 in
set_option maxHeartbeats 1000000 in
theorem sweep_any (f : Bool → Bool → Bool) (K : FuncId) (hE : ∀ (args : Array Value) (w : World), (callFunc K args).run Try.prog w = .ok (.enter K args) w) (hK : ∀ (p q : Bool) (w : World), Calls Try.prog K #[.bool p, .bool q] w fun e w' => e = .returned (.bool (f p q)) ∧ w = w')
    (A : Option Addr) (n c : Nat) (xs : PS) (B : Option Addr) (m d : Nat) (ys : PS) (top : Int) (w : World) (h : Rd w A n c xs) (h' : Rd w B m d ys)
    (ht0 : 0 ≤ top) (ht1 : top ≤ 65535) (hn : n ≤ 1000) (hm : m ≤ 1000) (hx : validF (-2) top xs = true) (hy : validF (-2) top ys = true) :
    Calls Try.prog 63 #[.slice A n c, .slice B m d, .int .i64 top, .func (.func K) #[] #[]] w (Owns 30 (setF f xs ys top) w) := by
  have HLEN := Lib.hid h.len
  have HLEN' := Lib.hid h'.len
  have RX := Lib.hid (restOf_zero hx 0)
  have RY := Lib.hid (restOf_zero hy 0)
  have HK := Lib.hid hK
  have HR := Lib.hid h
  have HR' := Lib.hid h'
  obtain ⟨i0, hi, hz0, hz1, hz2⟩ := info_parts infoSpanE
  clear hx hy hK h h'
  go_enter Try.func63, Try.ntmps63
  go_wp2
  go_loopg [9, 10, 11, 12] (top + 1).toNat (fun g s9 s10 s11 s12 wr => ∃ (a i j : Nat) (A' : Option Addr) (c' : Nat), g + a = (top + 1).toNat ∧ i ≤ n ∧ j ≤ m ∧ s9 = .slice A' (canonTo (keepF f xs ys) a).length c' ∧ s10 = .int .i64 i ∧ s11 = .int .i64 j ∧ s12 = .int .i64 a ∧
      RestOf xs top i a ∧ RestOf ys top j a ∧ SwM 30 w A' c' (canonTo (keepF f xs ys) a) wr)
  case atStart => exact ⟨0, 0, 0, none, 0, rfl, Nat.zero_le _, Nat.zero_le _, rfl, rfl, rfl, rfl, RX.out, RY.out, ⟨rfl, .inl ⟨rfl, rfl⟩⟩, Below.refl _ _⟩
  case round =>
    obtain ⟨a, i, j, A', c', hga, hin, hjm, rfl, rfl, rfl, rfl, rx, ry, hM⟩ := hrel
    have hg : (gk : Int) + a = top + 1 := by omega
    have HGA := Lib.hid hga
    clear hga RX RY
    have hol : (canonTo (keepF f xs ys) a).length ≤ 65536 := by have := canonTo_length (keepF f xs ys) a; omega
    generalize hO : canonTo (keepF f xs ys) a = o at hM hol
    have HO := Lib.hid hO
    clear hO
    by_cases hat : (a : Int) ≤ top
    · go_upto_block 2 with fail
      go_cut [10] (fun s10 wx => ∃ i' : Nat, i' ≤ n ∧ s10 = .int .i64 i' ∧ RestOf xs top i' a ∧ Ahead xs i' a ∧ SwM 30 w A' c' o wx)
      case first =>
        go_wp2_with fail
        go_loopg [10] (n - i) (fun g s10 wx => ∃ i' : Nat, g + i' = n ∧ s10 = .int .i64 i' ∧ RestOf xs top i' a ∧ SwM 30 w A' c' o wx)
        case atStart => exact ⟨i, by omega, rfl, rx, hM⟩
        case round =>
          obtain ⟨i', hgi, rfl, rx', hM'⟩ := hrel
          have HGI := Lib.hid hgi
          have hi' : i' ≤ n := by omega
          clear hgi rx hM
          by_cases hlt : i' < n
          · obtain ⟨b, o', hA, hbl, hc0⟩ := HR.out.at_ hlt
            subst hA
            have hlx : i' < xs.length := by have := HLEN.out; omega
            obtain ⟨-, d2⟩ := hc0 hlx
            have e2 := keepCell hM'.2 d2
            have RS := rx'.step hlx
            have AH := ahead_at (a := (a : Int)) hlx
            generalize xs[i'].2 = s2 at e2 RS AH
            by_cases hh : s2 < a
            · have RS := Lib.hid (RS hh)
              clear hc0 d2 rx' hlx AH
              go_wp2
              go_roundg (n - (i' + 1))
              case measure => have := HGI.out; omega
              case rel => exact ⟨i' + 1, by omega, by go_num, RS.out, hM'.1, hM'.2⟩
            · have RX := Lib.hid (And.intro rx' (AH (by omega)))
              clear hc0 d2 rx' hlx RS AH
              go_wp2
              go_meet
              exact ⟨i', by omega, rfl, RX.out.1, RX.out.2, hM'.1, hM'.2⟩
          · have RX := Lib.hid (And.intro rx' (ahead_end (xs := xs) (i := i') (by have := HLEN.out; omega) (a : Int)))
            clear rx'
            have hni : (n : Int) ≤ i' := by omega
            go_wp2
            go_meet
            exact ⟨i', by omega, rfl, RX.out.1, RX.out.2, hM'.1, hM'.2⟩
      case rest =>
        obtain ⟨i', hi', rfl, rx', hxA, hM'⟩ := hcut
        clear rx hM
        go_upto_block 4 with fail
        go_cut [11] (fun s11 wx => ∃ j' : Nat, j' ≤ m ∧ s11 = .int .i64 j' ∧ RestOf ys top j' a ∧ Ahead ys j' a ∧ SwM 30 w A' c' o wx)
        case first =>
          go_wp2_with fail
          go_loopg [11] (m - j) (fun g s11 wx => ∃ j' : Nat, g + j' = m ∧ s11 = .int .i64 j' ∧ RestOf ys top j' a ∧ SwM 30 w A' c' o wx)
          case atStart => exact ⟨j, by omega, rfl, ry, hM'⟩
          case round =>
            obtain ⟨j', hgi, rfl, ry', hN⟩ := hrel
            have HGI := Lib.hid hgi
            have hj' : j' ≤ m := by omega
            clear hgi ry hM'
            by_cases hlt : j' < m
            · obtain ⟨b, o', hB, hbl, hc0⟩ := HR'.out.at_ hlt
              subst hB
              have hlx : j' < ys.length := by have := HLEN'.out; omega
              obtain ⟨-, d2⟩ := hc0 hlx
              have e2 := keepCell hN.2 d2
              have RS := ry'.step hlx
              have AH := ahead_at (a := (a : Int)) hlx
              generalize ys[j'].2 = s2 at e2 RS AH
              by_cases hh : s2 < a
              · have RS := Lib.hid (RS hh)
                clear hc0 d2 ry' hlx AH
                go_wp2
                go_roundg (m - (j' + 1))
                case measure => have := HGI.out; omega
                case rel => exact ⟨j' + 1, by omega, by go_num, RS.out, hN.1, hN.2⟩
              · have RX := Lib.hid (And.intro ry' (AH (by omega)))
                clear hc0 d2 ry' hlx RS AH
                go_wp2
                go_meet
                exact ⟨j', by omega, rfl, RX.out.1, RX.out.2, hN.1, hN.2⟩
            · have RX := Lib.hid (And.intro ry' (ahead_end (xs := ys) (i := j') (by have := HLEN'.out; omega) (a : Int)))
              clear ry'
              have hmj : (m : Int) ≤ j' := by omega
              go_wp2
              go_meet
              exact ⟨j', by omega, rfl, RX.out.1, RX.out.2, hN.1, hN.2⟩
        case rest =>
          obtain ⟨j', hj', rfl, ry', hyA, hN⟩ := hcut
          clear ry hM'
          have SX := Lib.hid (stretch_spec rx' hxA hat)
          have SY := Lib.hid (stretch_spec ry' hyA hat)
          have CX := Lib.hid (fun w1 (H : Below w.heap.size w w1) => (HR.out.below H).cut hi')
          have CY := Lib.hid (fun w1 (H : Below w.heap.size w w1) => (HR'.out.below H).cut hj')
          have EX := Lib.hid (rx'.head ht1)
          have EY := Lib.hid (ry'.head ht1)
          have ST := Lib.hid (sweep_step f rx' ry' hxA hyA hat)
          have RXY := Lib.hid (And.intro rx' ry')
          clear rx' ry' hxA hyA
          go_upto_region 9 with fail
          go_cut [13, 14] (fun s13 s14 wx => s13 = .bool (stretchF a top (xs.drop i')).1 ∧ s14 = .int .i64 (stretchF a top (xs.drop i')).2 ∧ SwM 30 w A' c' o wx)
          case first =>
            by_cases hci : c = i'
            · have cx := CX.out _ hN.2
              rw [if_pos hci, show c - i' = 0 from by omega] at cx
              have CX0 := Lib.hid cx
              clear cx
              subst hci
              go_wp2_with fail
              refine (stretch_any _ _ _ _ a top _ CX0.out EX.out).mono ?_
              rintro e w1 ⟨rfl, hb1⟩
              go_wp2
              go_meet
              exact ⟨rfl, rfl, own_below hN.1 hb1, chain hN.2 hb1 hN.2.size⟩
            · go_wp2_with fail
              refine (stretch_any _ _ _ (xs.drop i') a top _ (by have := CX.out _ hN.2; rwa [if_neg hci] at this) EX.out).mono ?_
              rintro e w1 ⟨rfl, hb1⟩
              go_wp2
              go_meet
              exact ⟨rfl, rfl, own_below hN.1 hb1, chain hN.2 hb1 hN.2.size⟩
          case rest =>
            obtain ⟨rfl, rfl, hN2⟩ := hcut
            clear hN CX EX
            go_upto_region 10 with fail
            go_cut [15, 16] (fun s15 s16 wx => s15 = .bool (stretchF a top (ys.drop j')).1 ∧ s16 = .int .i64 (stretchF a top (ys.drop j')).2 ∧ SwM 30 w A' c' o wx)
            case first =>
              by_cases hdj : d = j'
              · have cy := CY.out _ hN2.2
                rw [if_pos hdj, show d - j' = 0 from by omega] at cy
                have CY0 := Lib.hid cy
                clear cy
                subst hdj
                go_wp2_with fail
                refine (stretch_any _ _ _ _ a top _ CY0.out EY.out).mono ?_
                rintro e w1 ⟨rfl, hb1⟩
                go_wp2
                go_meet
                exact ⟨rfl, rfl, own_below hN2.1 hb1, chain hN2.2 hb1 hN2.2.size⟩
              · go_wp2_with fail
                refine (stretch_any _ _ _ (ys.drop j') a top _ (by have := CY.out _ hN2.2; rwa [if_neg hdj] at this) EY.out).mono ?_
                rintro e w1 ⟨rfl, hb1⟩
                go_wp2
                go_meet
                exact ⟨rfl, rfl, own_below hN2.1 hb1, chain hN2.2 hb1 hN2.2.size⟩
            case rest =>
              obtain ⟨rfl, rfl, hN⟩ := hcut
              clear hN2 CY EY
              have sx := SX.out
              have sy := SY.out
              have st := ST.out
              generalize (stretchF a top (xs.drop i')).1 = p1 at sx st ⊢
              generalize (stretchF a top (xs.drop i')).2 = e1 at sx st ⊢
              generalize (stretchF a top (ys.drop j')).1 = p2 at sy st ⊢
              generalize (stretchF a top (ys.drop j')).2 = e2 at sy st ⊢
              obtain ⟨sx1, sx2, -⟩ := sx
              obtain ⟨sy1, sy2, -⟩ := sy
              clear SX SY ST
              obtain ⟨e, he⟩ : ∃ e : Nat, (e : Int) = min e1 e2 := ⟨(min e1 e2).toNat, by omega⟩
              obtain ⟨st1, st2, st3⟩ := st e he
              have hee : (e1 ≤ e2 ∧ (e : Int) = e1) ∨ (e2 < e1 ∧ (e : Int) = e2) := by omega
              have hae : (e : Int) ≤ 65535 := by omega
              have HC := Lib.hid (show o.length ≤ 65536 from hol)
              clear he st sx1 sx2 sy1 sy2
              go_upto_region 11 with fail
              go_cut [17] (fun s17 wx => s17 = .int .i64 e ∧ wc = wx)
              case first =>
                have ST3 := Lib.hid st3
                have HEE := Lib.hid hee
                clear st3 hee
                by_cases hle : e1 ≤ e2
                · have hq : (e : Int) = e1 := by have := HEE.out; omega
                  subst hq
                  go_wp2
                  go_meet
                  exact ⟨rfl, rfl⟩
                · have hq : (e : Int) = e2 := by have := HEE.out; omega
                  subst hq
                  have hlt : (e : Int) < e1 := by omega
                  go_wp2
                  go_meet
                  exact ⟨rfl, rfl⟩
              case rest =>
                obtain ⟨rfl, rfl⟩ := hcut
                have ST3 := Lib.hid st3
                clear st3 hee
                go_wp2_with fail
                refine (HK.out p1 p2 _).mono ?_
                rintro e' w' ⟨rfl, rfl⟩
                have hsz := hN.2.size
                cases hf : f p1 p2 with
                | false =>
                  have HS3 := Lib.hid (show canonTo (keepF f xs ys) (e + 1) = o from by rw [ST3.out, hf, if_neg (by simp), HO.out])
                  clear hf ST3
                  go_wp2
                  go_roundg (gk - (e + 1 - a))
                  case measure => omega
                  case rel =>
                    refine ⟨e + 1, i', j', A', c', by have := HGA.out; omega, hi', hj', by rw [HS3.out], rfl, rfl, by go_num, RXY.out.1.mono (by omega), RXY.out.2.mono (by omega), by rw [HS3.out]; exact hN⟩
                | true =>
                  have HS3 := Lib.hid (show canonTo (keepF f xs ys) (e + 1) = push o a e from by rw [ST3.out, hf, if_pos rfl, HO.out])
                  clear hf ST3
                  rcases Nat.eq_zero_or_pos o.length with hl | hl
                  · have ho : o = [] := List.length_eq_zero_iff.1 hl
                    have HP := Lib.hid (show canonTo (keepF f xs ys) (e + 1) = o ++ [((a : Int), (e : Int))] from by rw [HS3.out, ho]; rfl)
                    clear ho
                    have hlb : (o.length : Int) ≤ 0 := by omega
                    clear hl
                    go_wp2_with (first
                      | (at_builtin; refine wpList_append_own _ rfl (.tmp 98) (.tmp 102) 23 rfl w.heap.size 30 i0 _ 2 16 Try.underlying23 hi hz0 hz1 hz2 rfl (by decide) _ _ _ rfl (World.ownsRow.alloc hN.1 _) ⟨wc.heap.size, 0, none⟩ 1 1 [.int .i64 a, .int .i64 e] rfl rfl (news_cells _ _) (news_one _ _) (by unfold maxLen; omega) (by omega) (by simp; omega) ?_; intro v1 w1 own1 hg1 _; obtain ⟨A2, c3, hv1, own2, hb2⟩ := push_own hN.2 hsz _ hN.1 own1 hg1; have HV1 := Lib.hid hv1; have HO2 := Lib.hid own2; clear hv1 own2 own1 hg1))
                    go_roundg (gk - (e + 1 - a))
                    case measure => omega
                    case rel =>
                      have hlen : (canonTo (keepF f xs ys) (e + 1)).length = o.length + 1 := by rw [HP.out]; simp
                      refine ⟨e + 1, i', j', A2, c3, by have := HGA.out; omega, hi', hj', by rw [hlen]; exact HV1.out, rfl, rfl, by go_num, RXY.out.1.mono (by omega), RXY.out.2.mono (by omega), ?_, hb2⟩
                      rw [hlen, HP.out]; exact HO2.out
                  · obtain ⟨g, rfl, hg1, hg2⟩ : ∃ g, A' = some ⟨g, 0, none⟩ ∧ w.heap.size ≤ g ∧ g < wc.heap.size := by
                      rcases own_form hN.1 with ⟨_, hn, _⟩ | hf
                      · omega
                      · exact hf
                    have hlo : o.length - 1 < o.length := by omega
                    have d2 := (hN.1.cellAt ((o.length - 1) * 2 + 1) (by omega)).trans (flat_snd _ (o.length - 1) _ (List.getElem?_eq_getElem hlo))
                    have e2' := hN.1.frozenAt ((o.length - 1) * 2 + 1)
                    have cl := validF_all (Int.le_refl _) (HO.out ▸ canonTo_valid (keepF f xs ys) a) _ (List.getElem_mem hlo)
                    have PJ := Lib.hid (fun (hs : o[o.length - 1].2 + 1 = (a : Int)) => push_join (lo := a) (hi := e) (s := o[o.length - 1]) hl rfl hs)
                    have PA := Lib.hid (fun (hs : ¬ o[o.length - 1].2 + 1 = (a : Int)) => push_apart (lo := a) (hi := e) (s := o[o.length - 1]) hl rfl hs)
                    obtain ⟨s, hs⟩ : ∃ s, o[o.length - 1] = s := ⟨_, rfl⟩
                    rw [hs] at d2 PJ PA cl
                    obtain ⟨s1, s2⟩ := s
                    have hFS := Lib.hid (flat_set_snd o (o.length - 1) s1 e hlo (by rw [hs]))
                    clear hs
                    simp only at d2 cl
                    obtain ⟨cl1, cl2, cl3⟩ := cl
                    clear hlo
                    by_cases hj : s2 + 1 = (a : Int)
                    · have HP := Lib.hid (show canonTo (keepF f xs ys) (e + 1) = o.set (o.length - 1) (s1, (e : Int)) from by rw [HS3.out, PJ.out hj])
                      clear PA PJ
                      have hjb : (s2 + 1 == (a : Int)) = true := by simpa using hj
                      have HJ := Lib.hid hj
                      clear hj
                      go_wp2_with fail
                      go_roundg (gk - (e + 1 - a))
                      case measure => omega
                      case rel =>
                        have hst := hN.1.stored ((o.length - 1) * 2 + 1) (.int .i64 e)
                        rw [hFS.out] at hst
                        have hlen : (canonTo (keepF f xs ys) (e + 1)).length = o.length := by rw [HP.out]; simp
                        refine ⟨e + 1, i', j', _, c', by have := HGA.out; omega, hi', hj', by rw [hlen], rfl, rfl, by go_num, RXY.out.1.mono (by omega), RXY.out.2.mono (by omega), ?_, ?_⟩
                        · rw [hlen, HP.out]; exact hst.1
                        · exact hN.2.grown hst.2 (by omega) fun k hk => (hN.1.lt k hk).1
                    · have HP := Lib.hid (show canonTo (keepF f xs ys) (e + 1) = o ++ [((a : Int), (e : Int))] from by rw [HS3.out, PA.out hj])
                      clear PA PJ
                      have hjb : (s2 + 1 == (a : Int)) = false := by simpa using hj
                      go_wp2_with (first
                        | (at_builtin; refine wpList_append_own _ rfl (.tmp 98) (.tmp 102) 23 rfl w.heap.size 30 i0 _ 2 16 Try.underlying23 hi hz0 hz1 hz2 rfl (by decide) _ _ _ rfl (World.ownsRow.alloc hN.1 _) ⟨wc.heap.size, 0, none⟩ 1 1 [.int .i64 a, .int .i64 e] rfl rfl (news_cells _ _) (news_one _ _) (by unfold maxLen; omega) (by omega) (by simp; omega) ?_; intro v1 w1 own1 hg1 _; obtain ⟨A2, c3, hv1, own2, hb2⟩ := push_own hN.2 hsz _ hN.1 own1 hg1; have HV1 := Lib.hid hv1; have HO2 := Lib.hid own2; clear hv1 own2 own1 hg1))
                      go_roundg (gk - (e + 1 - a))
                      case measure => omega
                      case rel =>
                        have hlen : (canonTo (keepF f xs ys) (e + 1)).length = o.length + 1 := by rw [HP.out]; simp
                        refine ⟨e + 1, i', j', A2, c3, by have := HGA.out; omega, hi', hj', by rw [hlen]; exact HV1.out, rfl, rfl, by go_num, RXY.out.1.mono (by omega), RXY.out.2.mono (by omega), ?_, hb2⟩
                        rw [hlen, HP.out]; exact HO2.out
    · have hca : canonTo (keepF f xs ys) a = canon (keepF f xs ys) top := canonTo_end _ (by have := HGA.out; omega)
      rw [HO.out] at hca
      have HCA := Lib.hid hca
      clear hca
      go_wp2
      go_ret
      show Owns 30 (canon (keepF f xs ys) top) w _ _
      rw [← HCA.out]
      exact ⟨A', c', rfl, hM.1, hM.2⟩
end Go.Proofs.Ytbonkolgbcmaoaa
