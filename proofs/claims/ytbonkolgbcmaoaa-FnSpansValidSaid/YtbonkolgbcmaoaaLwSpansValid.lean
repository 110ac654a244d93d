/-
  THE WALK of the law FnSpansValid.
-/
import Derived.Test.YtbonkolgbcmaoaaLwKit
import Derived.Test.YtbonkolgbcmaoaaSpansValid
import Derived.Test.YtbonkolgbcmaoaaSpecValid
import Derived.Test.YtbonkolgbcmaoaaDrValid
import Derived.Test.YtbonkolgbcmaoaaIHave
import Derived.Test.YtbonkolgbcmaoaaSetSize
import Derived.Test.YtbonkolgbcmaoaaOpen
namespace Go.Proofs.Ytbonkolgbcmaoaa
open Go.ChangeShapes Go.WideShapes Go.ChangeAt Go.RowKit Go.Sort Pf
theorem step_append_own {P : Program} {w : World} {ops : Array Oper} {o : Oper} {a : Act} {K : Act → World → Prop} {Q : Exit → Act → World → Prop} {E : Prop} (hgd : o.guard = none) (s x : Operand) (t : TypeId)
    (ho : o.op = .call { callee := .builtin .append, args := #[s, x], argTypes := #[t, t] })
    (base : Nat) (e : TypeId) (i : TypeInfo) (z : Value) (size bytes : Nat) (ht : P.underlying t = some (.slice e)) (hi : P.info? e = some i) (hz : i.zero = some z)
    (hsize : i.size = size) (hby : i.bytes = bytes) (hzs : z.cells.size = size) (hsz : 0 < size)
    (v : Value) (n : Nat) (xs : List Value) (hs : a.eval s = v) (hown : w.ownsRow base e size v n xs)
    (ad : Addr) (m c : Nat) (news : List Value) (hx : a.eval x = .slice (some ad) m c) (hl : news.length = m * size) (hnews : ∀ j u, news[j]? = some u → w.cell? (ad.add j) = some u) (h1 : ∀ u ∈ news, u.oneCell' = true)
    (h63 : n + m ≤ maxLen) (hbytes : (n + m) * bytes ≤ 140737488355328) (hbase : base ≤ w.heap.size)
    (h : ∀ v' w', w'.ownsRow base e size v' (n + m) (xs ++ news) → w.grownBy w' v.ownBlock → K (a.put o.dst v') w') :
    if Region.wanted o (yielded ops a.tmps) = true then Oper.wp P o a w K Q else E := by
  have hw : Region.wanted o (yielded ops a.tmps) = true := by simp [Region.wanted, hgd]
  rw [if_pos hw]
  obtain ⟨v', w', hr, h2, h3, _⟩ := run_append_own (P := P) w base t o.type e i z size bytes ht hi hz hsize hby hzs hsz v n xs hown ad m c news hl hnews h1 h63 hbytes hbase
  unfold Oper.wp execOp
  simp only [ho, resolve, invoke, builtin, Sem.run_bind, Sem.run_pure, Result.andThen_ok, List.map_toArray, List.map_cons, List.map_nil, hs, hx, hr]
  exact h v' w' h2 h3
theorem newsL_new {W : World} {t : TypeId} {g : Nat} (hg : g = W.heap.size) (x y z u : Int) : ∀ (j : Nat) (v : Value), [Value.int .i64 x, Value.int .i64 y, Value.int .i64 z, Value.int .i64 u][j]? = some v → (W.alloc (.cells #[.int .i64 x, .int .i64 y, .int .i64 z, .int .i64 u] t)).cell? ((⟨g, 0, none⟩ : Addr).add j) = some v := by
  subst hg
  intro j v hj
  match j, hj with
  | 0, hj => simp at hj; subst hj; simp [Addr.add]
  | 1, hj => simp at hj; subst hj; simp [Addr.add]
  | 2, hj => simp at hj; subst hj; simp [Addr.add]
  | 3, hj => simp at hj; subst hj; simp [Addr.add]
theorem newsL_kept {W W2 w' : World} {t : TypeId} {g : Nat} {row : Option Nat} (hg : g = W.heap.size) (x y z u : Int) (hb : Below (W.alloc (.cells #[.int .i64 x, .int .i64 y, .int .i64 z, .int .i64 u] t)).heap.size (W.alloc (.cells #[.int .i64 x, .int .i64 y, .int .i64 z, .int .i64 u] t)) W2)
    (hw : W2.grownBy w' row) (hne : row ≠ some g) : ∀ (j : Nat) (v : Value), [Value.int .i64 x, Value.int .i64 y, Value.int .i64 z, Value.int .i64 u][j]? = some v → w'.cell? ((⟨g, 0, none⟩ : Addr).add j) = some v := fun j v hj =>
  grown_cell hw (keepCell hb (newsL_new hg x y z u j v hj)) (by rw [add_none]; exact hne)
theorem four_one (x y z u : Int) : ∀ v ∈ [Value.int .i64 x, Value.int .i64 y, Value.int .i64 z, Value.int .i64 u], v.oneCell' = true := by
  intro v hv; simp at hv; rcases hv with rfl | rfl | rfl | rfl <;> rfl

set_option maxRecDepth 100000 in
set_option maxHeartbeats 1000000 in
theorem walkFnSpansValid (A : Option Addr) (n c : Nat) (zs : List Int) (w : World) (h : Rb w A n c zs) :
    Calls Try.prog 4 #[.slice A n c] w fun e w' => e = .returned (.bool true) ∧ Below w.heap.size w w' := by
  have hmax : n ≤ maxLen := Nat.le_trans h.2.1 h.2.2.1
  unfold maxLen at hmax
  have CD := Lib.hid (drawSpansValid_any A n c zs w h)
  clear h
  by_cases hn : n ≤ 1048576
  · have hn1 : (n : Int) ≤ 1048576 := by omega
    clear hn
    go_enter Try.func4, Try.ntmps4
    go_wp2_with fail
    refine (CD.out).mono ?_
    rintro e w1 ⟨A1, c1, xs, v, rfl, ⟨r1, n1⟩, ⟨top, ht, hx, hv⟩, hb1⟩
    have H := Lib.hid hb1
    obtain ⟨m, hm⟩ : ∃ m, xs.length = m := ⟨_, rfl⟩
    rw [hm] at r1 ⊢
    have Ra := Lib.hid r1
    have HM := Lib.hid hm
    obtain ⟨ht0, ht1⟩ := ht.bd
    clear hb1 r1 n1 CD hm ht
    cases hva : valid xs v with
    | false =>
      have HVA := Lib.hid hva
      clear hva hx hv
      go_wp2_with fail
      refine (bool_as (iSpansValid_any A1 m c1 xs v _ Ra.out) HVA.out).mono ?_
      rintro e w2 ⟨rfl, hb2⟩
      replace Ra := Lib.hid (Ra.out.below hb2)
      replace H := Lib.hid (chain H.out hb2 H.out.size)
      clear hb2
      go_wp2_with fail
      refine (bool_as (sSpansValid_any A1 m c1 xs v _ Ra.out) HVA.out).mono ?_
      rintro e w3 ⟨rfl, hb3⟩
      replace Ra := Lib.hid (Ra.out.below hb3)
      replace H := Lib.hid (chain H.out hb3 H.out.size)
      clear hb3
      go_wp2_with fail
      refine (alive_any _).mono ?_
      rintro e w4 ⟨rfl, hb4⟩
      replace Ra := Lib.hid (Ra.out.below hb4)
      replace H := Lib.hid (chain H.out hb4 H.out.size)
      clear hb4
      go_wp2
      go_ret
      exact ⟨rfl, H.out⟩
    | true =>
      have htv := (valid_iff.1 hva).1
      obtain rfl : v = top := by omega
      have hl : m ≤ 7 := by rw [← HM.out]; rcases hx with h | h; exact h; rw [hva] at h; cases h
      have HVA := Lib.hid hva
      clear hva hx hv htv
      go_wp2_with fail
      refine (bool_as (iSpansValid_any A1 m c1 xs v _ Ra.out) HVA.out).mono ?_
      rintro e w2 ⟨rfl, hb2⟩
      replace Ra := Lib.hid (Ra.out.below hb2)
      replace H := Lib.hid (chain H.out hb2 H.out.size)
      clear hb2
      go_wp2_with fail
      refine (bool_as (sSpansValid_any A1 m c1 xs v _ Ra.out) HVA.out).mono ?_
      rintro e w3 ⟨rfl, hb3⟩
      replace Ra := Lib.hid (Ra.out.below hb3)
      replace H := Lib.hid (chain H.out hb3 H.out.size)
      clear hb3
      rcases Nat.eq_zero_or_pos m with hm0 | hm0
      · subst hm0
        go_wp2_with fail
        refine (alive_any _).mono ?_
        rintro e w4 ⟨rfl, hb4⟩
        replace Ra := Lib.hid (Ra.out.below hb4)
        replace H := Lib.hid (chain H.out hb4 H.out.size)
        clear hb4
        go_wp2
        go_ret
        exact ⟨rfl, H.out⟩
      · obtain ⟨q, rfl⟩ : ∃ q, m = q + 1 := ⟨m - 1, by omega⟩
        have hql : q < xs.length := by have := HM.out; omega
        obtain ⟨b, o, rfl, hbl, hc0⟩ := Ra.out.at_ (k := q) (by omega)
        obtain ⟨d1, d2⟩ := hc0 hql
        have hsp : xs = xs.take q ++ [xs[q]] := by
          conv => lhs; rw [← List.take_append_drop q xs, List.drop_eq_getElem_cons hql, List.drop_of_length_le (by have := HM.out; omega)]
        have hbd := validF_all (Int.le_refl _) (valid_F HVA.out) _ (List.getElem_mem hql)
        generalize xs[q] = s at d1 d2 hsp hbd
        obtain ⟨lo, hi2⟩ := s
        simp only at d1 d2 hbd
        obtain ⟨hlo0, hlo1, hhi⟩ := hbd
        have hj : ((q + 1 : Nat) : Int) = (q : Int) + 1 := by omega
        have hw1 : IntKind.i64.wrap ((q : Int) + 1 - 1) = q := by rw [show (q : Int) + 1 - 1 = q from by omega]; exact IntWalk.i64_in _ (by omega)
        have hw3 : IntKind.i64.wrap (q : Int) = q := IntWalk.i64_in _ (by omega)
        have hq0 : (0 : Int) ≤ q := by omega
        have hq1 : (q : Int) < (q : Int) + 1 := by omega
        have hq2 : (q : Int) ≤ (q : Int) + 1 := by omega
        have hcap := Ra.out.2.1
        have hcc : (q : Int) + 1 ≤ c1 := by omega
        have hcc2 : (q : Int) ≤ c1 := by omega
        have hw2 : IntKind.i64.wrap (lo + 1) = lo + 1 := IntWalk.i64_in _ (by omega)
        have hne : (((q : Int) + 1) == 0) = false := by simp; omega
        have HSP := Lib.hid hsp
        clear hsp hc0
        obtain ⟨i0, hi, hz0, hz1, hz2⟩ := info_parts infoSpanE
        go_wp2_with fail
        have e0 : (w3.alloc (.cells #[.int .i64 lo, .int .i64 hi2] 30)).cell? ⟨w3.heap.size, 0, none⟩ = some (.int .i64 lo) := by go_cell
        have e1 : (w3.alloc (.cells #[.int .i64 lo, .int .i64 hi2] 30)).cell? ⟨w3.heap.size, 1, none⟩ = some (.int .i64 hi2) := by go_cell
        have hbs : w3.heap.size < (w3.alloc (.cells #[.int .i64 lo, .int .i64 hi2] 30)).heap.size := by simp
        replace Ra := Lib.hid (Ra.out.alloc (.cells #[.int .i64 lo, .int .i64 hi2] 30))
        replace H := Lib.hid (chain H.out (below_one _ (.cells #[.int .i64 lo, .int .i64 hi2] 30)) H.out.size)
        generalize w3.heap.size = bs at *
        generalize World.alloc _ (.cells #[.int .i64 lo, .int .i64 hi2] 30) = X at *
        have RT := Lib.hid (Ra.out.take (k := q) (by omega))
        have O1 := Lib.hid (World.ownsRow_lit (e := 30) (size := 2) X #[] 0 (Nat.le_refl _) (by unfold maxLen; omega) rfl)
        have O2 := Lib.hid (O1.out.alloc (.cells #[.int .i64 lo, .int .i64 lo, .int .i64 (lo + 1), .int .i64 hi2] 30))
        have o3 := own_mono (lo' := X.heap.size) (World.ownsRow_lit (e := 30) (size := 2) (X.alloc (.cells #[.int .i64 lo, .int .i64 lo, .int .i64 (lo + 1), .int .i64 hi2] 30)) #[] 0 (Nat.le_refl _) (by unfold maxLen; omega) rfl) (by simp)
        rw [World.size_alloc] at o3
        have O3 := Lib.hid o3
        clear o3
        have N1 := Lib.hid (RT.out.alloc (.cells #[] 30)).news
        have N2 := Lib.hid ((RT.out.alloc (.cells #[] 30)).alloc (.cells #[.int .i64 lo, .int .i64 lo, .int .i64 (lo + 1), .int .i64 hi2] 30)).news
        have N3 := Lib.hid ((RT.out.alloc (.cells #[.int .i64 lo, .int .i64 lo, .int .i64 (lo + 1), .int .i64 hi2] 30)).alloc (.cells #[] 30)).news
        have B1 := Lib.hid (show X.heap.size ≤ (X.alloc (.cells #[] 30)).heap.size by simp only [World.size_alloc]; omega)
        have B2 := Lib.hid (show X.heap.size ≤ ((X.alloc (.cells #[] 30)).alloc (.cells #[.int .i64 lo, .int .i64 lo, .int .i64 (lo + 1), .int .i64 hi2] 30)).heap.size by simp only [World.size_alloc]; omega)
        have B3 := Lib.hid (show X.heap.size ≤ ((X.alloc (.cells #[.int .i64 lo, .int .i64 lo, .int .i64 (lo + 1), .int .i64 hi2] 30)).alloc (.cells #[] 30)).heap.size by simp only [World.size_alloc]; omega)
        have hx1 := World.new_ne X _ e0
        have hq7 : q ≤ 6 := by omega
        have HN1 := Lib.hid (show (Value.slice (some ⟨X.heap.size, 0, none⟩) 0 0).ownBlock ≠ some bs by simp [Value.ownBlock]; omega)
        have HN3 := Lib.hid (show (Value.slice (some ⟨X.heap.size + 1, 0, none⟩) 0 0).ownBlock ≠ some bs by simp [Value.ownBlock]; omega)
        have HE1 := Lib.hid (show (Value.slice (some ⟨X.heap.size, 0, none⟩) 0 0).ownBlock ≠ some (X.heap.size + 1) by simp [Value.ownBlock])
        have HE3 := Lib.hid (show (Value.slice (some ⟨X.heap.size + 1, 0, none⟩) 0 0).ownBlock ≠ some X.heap.size by simp [Value.ownBlock])
        have K1 := Lib.hid (And.intro (keepCell (below_one X (.cells #[] 30)) e0) (keepCell (below_one X (.cells #[] 30)) e1))
        have K2 := Lib.hid (And.intro (keepCell (below_one (X.alloc (.cells #[] 30)) (.cells #[.int .i64 lo, .int .i64 lo, .int .i64 (lo + 1), .int .i64 hi2] 30)) (keepCell (below_one X (.cells #[] 30)) e0)) (keepCell (below_one (X.alloc (.cells #[] 30)) (.cells #[.int .i64 lo, .int .i64 lo, .int .i64 (lo + 1), .int .i64 hi2] 30)) (keepCell (below_one X (.cells #[] 30)) e1)))
        have K3 := Lib.hid (And.intro (keepCell (below_one (X.alloc (.cells #[.int .i64 lo, .int .i64 lo, .int .i64 (lo + 1), .int .i64 hi2] 30)) (.cells #[] 30)) (keepCell (below_one X (.cells #[.int .i64 lo, .int .i64 lo, .int .i64 (lo + 1), .int .i64 hi2] 30)) e0)) (keepCell (below_one (X.alloc (.cells #[.int .i64 lo, .int .i64 lo, .int .i64 (lo + 1), .int .i64 hi2] 30)) (.cells #[] 30)) (keepCell (below_one X (.cells #[.int .i64 lo, .int .i64 lo, .int .i64 (lo + 1), .int .i64 hi2] 30)) e1)))
        go_region_held3 (fun w' => w'.cell? ⟨bs, 0, none⟩ = some (.int .i64 lo) ∧ w'.cell? ⟨bs, 1, none⟩ = some (.int .i64 hi2)) (first | go_keep | exact ⟨by assumption, by assumption⟩)
          (first | (refine step_append_own (by rfl) (.tmp 38) (.tmp 43) 23 (by rfl) X.heap.size 30 i0 _ 2 16 Try.underlying23 hi hz0 hz1 hz2 (by rfl) (by decide) (.slice (some ⟨X.heap.size, 0, none⟩) 0 0) 0 [] (by rfl) (by exact O1.out) ⟨b, o, none⟩ q c1 (flat (xs.take q)) (by rfl) (by rw [flat_length, List.length_take]; have := HM.out; omega) (by exact N1.out) (flat_one _) (by unfold maxLen; omega) (by omega) (by exact B1.out) ?_; intro v1 w30 own1 hg1; have hg : World.grownBy (X.alloc (.cells #[] 30)) w30 _ := (by first | exact hg1 | exact undrew hg1 | exact undrew (undrew hg1)); have G1 := Lib.hid ((below_one X _).grown hg B1.out (fun k hk => (O1.out.lt k hk).1)); have hs30 := G1.out.size; have f0 := grown_cell hg K1.out.1 HN1.out; have f1 := grown_cell hg K1.out.2 HN1.out; clear hg hg1) | (refine step_append_own (by rfl) (.tmp 38) (.tmp 43) 23 (by rfl) X.heap.size 30 i0 _ 2 16 Try.underlying23 hi hz0 hz1 hz2 (by rfl) (by decide) (.slice (some ⟨X.heap.size, 0, none⟩) 0 0) 0 [] (by rfl) (by exact O2.out) ⟨b, o, none⟩ q c1 (flat (xs.take q)) (by rfl) (by rw [flat_length, List.length_take]; have := HM.out; omega) (by exact N2.out) (flat_one _) (by unfold maxLen; omega) (by omega) (by exact B2.out) ?_; intro v1 w30 own1 hg1; have hg : World.grownBy ((X.alloc (.cells #[] 30)).alloc (.cells #[.int .i64 lo, .int .i64 lo, .int .i64 (lo + 1), .int .i64 hi2] 30)) w30 _ := (by first | exact hg1 | exact undrew hg1 | exact undrew (undrew hg1)); have G1 := Lib.hid ((below_two X _ _).grown hg B2.out (fun k hk => (O2.out.lt k hk).1)); have hs30 := G1.out.size; have f0 := grown_cell hg K2.out.1 HN1.out; have f1 := grown_cell hg K2.out.2 HN1.out; have nL := newsL_kept (g := X.heap.size + 1) (W := X.alloc (.cells #[] 30)) (by simp) lo lo (lo + 1) hi2 (Below.refl _ _) hg HE1.out; clear hg hg1) | (refine step_append_own (by rfl) (.tmp 38) (.tmp 43) 23 (by rfl) X.heap.size 30 i0 _ 2 16 Try.underlying23 hi hz0 hz1 hz2 (by rfl) (by decide) (.slice (some ⟨X.heap.size + 1, 0, none⟩) 0 0) 0 [] (by rfl) (by exact O3.out) ⟨b, o, none⟩ q c1 (flat (xs.take q)) (by rfl) (by rw [flat_length, List.length_take]; have := HM.out; omega) (by exact N3.out) (flat_one _) (by unfold maxLen; omega) (by omega) (by exact B3.out) ?_; intro v1 w30 own1 hg1; have hg : World.grownBy ((X.alloc (.cells #[.int .i64 lo, .int .i64 lo, .int .i64 (lo + 1), .int .i64 hi2] 30)).alloc (.cells #[] 30)) w30 _ := (by first | exact hg1 | exact undrew hg1 | exact undrew (undrew hg1)); have G1 := Lib.hid ((below_two X _ _).grown hg B3.out (fun k hk => (O3.out.lt k hk).1)); have hs30 := G1.out.size; have f0 := grown_cell hg K3.out.1 HN3.out; have f1 := grown_cell hg K3.out.2 HN3.out; have nL := newsL_kept (g := X.heap.size) (W := X) rfl lo lo (lo + 1) hi2 (below_one _ (.cells #[] 30)) hg HE3.out; clear hg hg1) | (refine step_append_own (by rfl) (.tmp 44) (.tmp 56) 23 (by rfl) X.heap.size 30 i0 _ 2 16 Try.underlying23 hi hz0 hz1 hz2 (by rfl) (by decide) v1 (0 + q) _ (by rfl) (by exact own1.alloc (.cells #[.int .i64 lo, .int .i64 lo, .int .i64 (lo + 1), .int .i64 hi2] 30)) ⟨w30.heap.size, 0, none⟩ 2 2 [.int .i64 lo, .int .i64 lo, .int .i64 (lo + 1), .int .i64 hi2] (by rfl) rfl (by exact newsL_new rfl _ _ _ _) (four_one _ _ _ _) (by unfold maxLen; omega) (by omega) (by exact (G1.out.alloc hs30 (.cells #[.int .i64 lo, .int .i64 lo, .int .i64 (lo + 1), .int .i64 hi2] 30)).size) ?_; intro v2 w40 own2 hg2; have hgb : World.grownBy (w30.alloc (.cells #[.int .i64 lo, .int .i64 lo, .int .i64 (lo + 1), .int .i64 hi2] 30)) w40 _ := (by first | exact hg2 | exact undrew hg2 | exact undrew (undrew hg2)); have hne2 : v1.ownBlock ≠ some bs := (fun e => Nat.lt_irrefl _ (Nat.lt_of_lt_of_le hbs (own1.lt _ e).1));  have G2 := Lib.hid ((G1.out.alloc hs30 _).grown hgb (by simp only [World.size_alloc]; omega) (fun k hk => (own1.lt k hk).1)); have m0 := grown_cell hgb (keepCell (below_one _ _) f0) hne2; have m1 := grown_cell hgb (keepCell (below_one _ _) f1) hne2) | (refine step_append_own (by rfl) (.tmp 44) (.tmp 56) 23 (by rfl) X.heap.size 30 i0 _ 2 16 Try.underlying23 hi hz0 hz1 hz2 (by rfl) (by decide) v1 (0 + q) _ (by rfl) (by exact own1) ⟨X.heap.size + 1, 0, none⟩ 2 2 [.int .i64 lo, .int .i64 lo, .int .i64 (lo + 1), .int .i64 hi2] (by rfl) rfl (by exact nL) (four_one _ _ _ _) (by unfold maxLen; omega) (by omega) (by exact hs30) ?_; intro v2 w40 own2 hg2; have hgb : World.grownBy w30 w40 _ := (by first | exact hg2 | exact undrew hg2 | exact undrew (undrew hg2)); have hne2 : v1.ownBlock ≠ some bs := (fun e => Nat.lt_irrefl _ (Nat.lt_of_lt_of_le hbs (own1.lt _ e).1));  have G2 := Lib.hid (G1.out.grown hgb hs30 (fun k hk => (own1.lt k hk).1)); have m0 := grown_cell hgb f0 hne2; have m1 := grown_cell hgb f1 hne2) | (refine step_append_own (by rfl) (.tmp 44) (.tmp 56) 23 (by rfl) X.heap.size 30 i0 _ 2 16 Try.underlying23 hi hz0 hz1 hz2 (by rfl) (by decide) v1 (0 + q) _ (by rfl) (by exact own1) ⟨X.heap.size, 0, none⟩ 2 2 [.int .i64 lo, .int .i64 lo, .int .i64 (lo + 1), .int .i64 hi2] (by rfl) rfl (by exact nL) (four_one _ _ _ _) (by unfold maxLen; omega) (by omega) (by exact hs30) ?_; intro v2 w40 own2 hg2; have hgb : World.grownBy w30 w40 _ := (by first | exact hg2 | exact undrew hg2 | exact undrew (undrew hg2)); have hne2 : v1.ownBlock ≠ some bs := (fun e => Nat.lt_irrefl _ (Nat.lt_of_lt_of_le hbs (own1.lt _ e).1));  have G2 := Lib.hid (G1.out.grown hgb hs30 (fun k hk => (own1.lt k hk).1)); have m0 := grown_cell hgb f0 hne2; have m1 := grown_cell hgb f1 hne2))
        all_goals
          obtain ⟨A2, c2, hv2⟩ := own_slice own2
          subst hv2
          have rp : Rd w40 A2 (0 + q + 2) c2 (xs.take q ++ [(lo, lo), (lo + 1, hi2)]) := own_rd (by rw [flat_append]; exact own2)
          rw [Nat.zero_add] at rp
          obtain ⟨h2, hh2⟩ : ∃ h2, (q + 1) / 2 = h2 := ⟨_, rfl⟩
          have hd2 : ((q : Int) + 1) / 2 = (h2 : Int) := by omega
          have hh0 : (0 : Int) ≤ h2 := by omega
          have hh1 : (h2 : Int) ≤ c1 := by omega
          have hh3 : (h2 : Int) ≤ (q : Int) + 1 := by omega
          have HP := Lib.hid (show valid (xs.take q ++ [(lo, lo), (lo + 1, hi2)]) v = false from valid_split)
          have HQ := Lib.hid (valid_take HVA.out h2)
          have RP := Lib.hid rp
          have RA := Lib.hid ((Ra.out.below G2.out).take (k := h2) (by omega))
          have HH := Lib.hid (chain H.out G2.out H.out.size)
          clear rp own2 hg2 hgb own1 f0 f1 m0 m1 hne2 hh2
          try clear nL
          go_wp2_with fail
          with_reducible refine (bool_as (iSpansValid_any (some ⟨b, o, none⟩) h2 c1 (xs.take h2) v _ RA.out) HQ.out).mono ?_
          rintro e w41 ⟨rfl, hb41⟩
          replace RP := Lib.hid (RP.out.below hb41)
          replace HH := Lib.hid (chain HH.out hb41 HH.out.size)
          clear hb41
          go_wp2_with fail
          with_reducible refine (bool_as (iSpansValid_any A2 (q + 2) c2 _ v _ RP.out) HP.out).mono ?_
          rintro e w42 ⟨rfl, hb42⟩
          replace HH := Lib.hid (chain HH.out hb42 HH.out.size)
          clear hb42
          go_wp2
          go_ret
          exact ⟨rfl, HH.out⟩
  · have hn1 : (1048576 : Int) < n := by omega
    clear hn
    go_enter Try.func4, Try.ntmps4
    go_wp2
    go_ret
    exact ⟨rfl, Below.refl _ _⟩
end Go.Proofs.Ytbonkolgbcmaoaa
