/-
  WALK: spec.l20Test: it answers some test.
-/
import Derived.Test.YtoapnjlpmjcloaaDoorDrPacket
import Derived.Test.YtoapnjlpmjcloaaDoorDrSpan
import Derived.Test.YtoapnjlpmjcloaaDoorTspP
namespace Go.Proofs.YtoapnjlpmjcloaaDoor
open Go.ChangeShapes Go.WideShapes Go.ChangeAt Go.RowKit Go.Sort Pf

/-- Result in block R, test in block S, range in block Q, reader in block g. -/
structure TSt (w : World) (g f R S Q : Nat) (rs vs qs : List Value) (wx : World) : Prop where
  q : QSt w g f R S rs vs wx
  hQ : S < Q
  qb : Blk wx Q qs
section
variable {w wx w' : World} {g f R S Q : Nat} {rs vs qs : List Value}
theorem TSt.pick {n : Nat} (h : TSt w g f R S Q rs vs qs wx) (hg : wx.grownBy w' (some g)) (hr : Rdr w' g n) (hgw : g < w.heap.size) : TSt w g n R S Q rs vs qs w' :=
  ⟨h.q.pick hg hr hgw, h.hQ, h.qb.grown hg (by have := h.hQ; have := h.q.hR; have := h.q.hS; simp; omega)⟩
theorem TSt.below (h : TSt w g f R S Q rs vs qs wx) (k : Below wx.heap.size wx w') : TSt w g f R S Q rs vs qs w' := ⟨h.q.below k, h.hQ, h.qb.below k⟩
theorem TSt.alloc (h : TSt w g f R S Q rs vs qs wx) (o : Obj) : TSt w g f R S Q rs vs qs (wx.alloc o) := h.below (below_one wx o)
theorem TSt.drewN (h : TSt w g f R S Q rs vs qs wx) (k : Nat) : TSt w g f R S Q rs vs qs (wx.drewN k) := ⟨h.q.drewN k, h.hQ, h.qb.drewN k⟩
theorem TSt.drew (h : TSt w g f R S Q rs vs qs wx) : TSt w g f R S Q rs vs qs wx.drew := h.drewN 1
theorem TSt.less {k : Nat} (h : TSt w g f R S Q rs vs qs wx) (hk : k ≤ f) : TSt w g k R S Q rs vs qs wx := ⟨h.q.less hk, h.hQ, h.qb⟩
theorem TSt.rdr (h : TSt w g f R S Q rs vs qs wx) : Rdr wx g f := h.q.rdr
theorem TSt.set (h : TSt w g f R S Q rs vs qs wx) (hgw : g < w.heap.size) (j : Nat) (x : Value) : TSt w g f R S Q rs (vs.set j x) qs (wx.setCell ⟨S, j, none⟩ x) :=
  ⟨h.q.set hgw j x, h.hQ, h.qb.other _ _ (by have := h.hQ; simp only; omega)⟩
theorem TSt.setQ (h : TSt w g f R S Q rs vs qs wx) (hgw : g < w.heap.size) (j : Nat) (x : Value) : TSt w g f R S Q rs vs (qs.set j x) (wx.setCell ⟨Q, j, none⟩ x) :=
  ⟨⟨grown_put h.q.gr (by have := h.hQ; have := h.q.hR; have := h.q.hS; simp only; omega), h.q.rdr.set (by have := h.hQ; have := h.q.hR; have := h.q.hS; simp only; omega), h.q.hR, h.q.hS, h.q.rb.other _ _ (by have := h.hQ; have := h.q.hS; simp only; omega), h.q.sb.other _ _ (by have := h.hQ; simp only; omega)⟩, h.hQ, h.qb.set j x⟩
theorem TSt.lts (h : TSt w g f R S Q rs vs qs wx) : S < Q ∧ Q < wx.heap.size := ⟨h.hQ, h.qb.lt⟩
end
theorem undrawn {W w' : World} {r : Option Nat} (h : W.drew.grownBy w' r) : W.grownBy w' r := grownBy_trans (grownBy_drewN W 1 r) h
/-- A test's cells. -/
def ts (a b c : Int) (d : Bool) : List Value := [.int .i64 a, .int .i64 b, .int .i64 c, .bool d]
def pr (a b : Int) : List Value := [.int .i64 a, .int .i64 b]
theorem QSt.toT {w wx : World} {g f R S : Nat} {rs vs : List Value} (h : QSt w g f R S rs vs wx) (cs : Array Value) (t : TypeId) : TSt w g f R S wx.heap.size rs vs cs.toList (wx.alloc (.cells cs t)) :=
  ⟨h.alloc _, h.sb.lt, Blk.new _ _ _⟩
def DrewTest (g f : Nat) (w : World) (e : Ending) (w' : World) : Prop := ∃ (a b c : Int) (d : Bool), e = .returned (.agg #[.int .i64 a, .int .i64 b, .int .i64 c, .bool d]) ∧ w.grownBy w' (some g) ∧ Rdr w' g f

set_option maxRecDepth 20000 in
set_option maxHeartbeats 2000000 in
theorem drTest_any (g f : Nat) (n : Int) (w : World) (hn0 : 0 ≤ n) (hn1 : n ≤ 1000) (h : Rdr w g (f + 18)) :
    Calls Tryd.prog 64 #[.pointer (some ⟨g, 0, none⟩), .int .i64 n] w (DrewTest g f w) := by
  have hgw := h.lt
  have HR := Lib.hid (RB.start h #[.int .i64 0, .int .i64 0, .int .i64 0, .bool false] 32)
  clear h
  go_enter Tryd.func64, Tryd.ntmps64
  go_upto_region 1 with fail
  go_cut [5] (fun s5 wx => ∃ (S : Nat) (a : Int) (d : Bool), s5 = .pointer (some ⟨S, 0, none⟩) ∧ (0 ≤ a ∧ a < 4) ∧ QSt w g (f + 16) w.heap.size S (ts 0 0 0 false) (ts a 0 0 d) wx)
  case first =>
    go_wp2_with fail
    refine (pick_any g _ (f + 17) 4 _ HR.out.rdr rfl).mono ?_
    intro e w1 hp
    obtain ⟨a, rfl, ha0, ha1, hg1, hr1⟩ := picked_lt (by omega) hp
    clear hp
    have S1 := Lib.hid (HR.out.pick hg1 hr1 hgw)
    clear hg1 hr1 HR
    go_wp2_with fail
    refine (pick_any g _ (f + 16) 4 _ S1.out.rdr rfl).mono ?_
    intro e w2 hp
    obtain ⟨b, rfl, -, -, hg2, hr2⟩ := hp
    have S2 := Lib.hid (S1.out.pick hg2 hr2 hgw)
    obtain ⟨d, hd⟩ : ∃ d, (b == 0) = d := ⟨_, rfl⟩
    clear hg2 hr2 S1
    go_wp2
    go_meet
    exact ⟨_, a, d, rfl, ⟨ha0, ha1⟩, S2.out.toQ #[.int .i64 a, .int .i64 0, .int .i64 0, .bool d] _⟩
  case rest =>
    obtain ⟨S, a, d, rfl, ⟨ha0, ha1⟩, st⟩ := hcut
    have ST := Lib.hid st
    have ht := topF_bd ha0 (by omega)
    have c0 := st.sb.c 0 rfl
    clear HR st
    go_wp2_with fail
    refine (sFieldTop_any a _).mono ?_
    rintro e w1 ⟨rfl, rfl⟩
    generalize htp : topF a = top at ht
    obtain ⟨ht0, ht1⟩ := ht
    clear htp
    go_wp2_with fail
    refine (drSpan_any g (f + 8) top 0 _ ht0 ht1 (by omega) (by omega) ST.out.rdr).mono ?_
    rintro e w2 ⟨lo, hi, rfl, hg2, hr2⟩
    have SS := ST.out.pick hg2 hr2 hgw
    have T1 := Lib.hid (SS.toT #[.int .i64 lo, .int .i64 hi] 87)
    have c0 := T1.out.q.sb.c 0 rfl
    clear ST SS hg2 hr2
    go_upto_region 4 with fail
    generalize hQv : w2.heap.size = Q at T1 c0
    generalize w2.alloc (.cells #[.int .i64 lo, .int .i64 hi] 87) = W at T1 c0
    clear hQv
    go_cut [27] (fun s27 wx => ∃ c : Bool, s27 = .bool c ∧ TSt w g (f + 7) w.heap.size S Q (ts 0 0 0 false) (ts a 0 0 d) (pr lo hi) wx)
    case first =>
      by_cases hfl : a < 2
      · go_wp2_with fail
        refine (pick_any g _ (f + 7) 2 _ T1.out.rdr rfl).mono ?_
        intro e w3 hp
        obtain ⟨v, rfl, -, -, hg3, hr3⟩ := hp
        have T3 := Lib.hid (T1.out.pick hg3 hr3 hgw)
        clear hg3 hr3 T1
        go_wp2
        go_meet
        exact ⟨_, rfl, T3.out⟩
      · go_wp2
        go_meet
        exact ⟨_, rfl, T1.out.less (by omega)⟩
    case rest =>
      clear T1 c0
      obtain ⟨c, rfl, st⟩ := hcut
      have T4 := Lib.hid st
      clear st
      go_upto_if 27 with fail
      go_cut [] (fun wx => ∃ lo hi : Int, TSt w g (f + 5) w.heap.size S Q (ts 0 0 0 false) (ts a 0 0 d) (pr lo hi) wx)
      case first =>
        cases c with
        | false =>
          go_wp2
          go_meet
          exact ⟨_, _, T4.out.less (by omega)⟩
        | true =>
          go_upto_region 5 with fail
          go_cut [] (fun wx => ∃ lo : Int, (0 ≤ lo ∧ lo < 20) ∧ TSt w g (f + 6) w.heap.size S Q (ts 0 0 0 false) (ts a 0 0 d) (pr lo 0) wx)
          case first =>
            go_wp2_with fail
            refine (pick_any g _ (f + 6) 20 _ T4.out.rdr rfl).mono ?_
            intro e w3 hp
            obtain ⟨v, rfl, v0, v1, hg3, hr3⟩ := picked_lt (by omega) hp
            clear hp
            have T5 := Lib.hid (T4.out.pick hg3 hr3 hgw)
            have e0 := T5.out.qb.c 0 rfl
            have e1 := T5.out.qb.c 1 rfl
            have f0 := T5.out.qb.f 0 rfl
            have f1 := T5.out.qb.f 1 rfl
            clear hg3 hr3 T4
            go_wp2
            go_meet
            exact ⟨v, ⟨v0, v1⟩, (T5.out.setQ hgw 0 _).setQ hgw 1 _⟩
          case rest =>
            clear T4 lo hi
            obtain ⟨lo, ⟨lo0, lo1⟩, st⟩ := hcut
            have T6 := st.drew
            have R1 := T6.rdr
            have c0 := T6.qb.c 0 rfl
            have f1 := T6.qb.f 1 rfl
            clear st
            go_wp2_with fail
            go_region_with (go_at_call 61; ((with_reducible refine (pick_any g _ (f + 5) 8 _ (by with_reducible assumption) (by omega)).mono ?_); intro e w2 hp; obtain ⟨v, rfl, hv0, hv1, hg1, hr1⟩ := picked_lt (by omega) hp; clear hp; have T7 := TSt.pick (by with_reducible assumption) hg1 hr1 hgw; have d0 := T7.qb.c 0 rfl; have d1 := T7.qb.c 1 rfl; have d2 := T7.qb.f 1 rfl; have w2 : IntKind.i64.wrap (lo + v) = lo + v := IntWalk.i64_in _ (by omega)))
            all_goals
              go_wp2
              all_goals
                go_meet
                exact ⟨_, _, T7.setQ hgw 1 _⟩
      case rest =>
        clear T4 lo hi c
        obtain ⟨lo, hi, st⟩ := hcut
        have T8 := Lib.hid st
        clear st
        go_wp2_with fail
        refine (pick_any g _ (f + 4) 8 _ T8.out.rdr rfl).mono ?_
        intro e w3 hp
        obtain ⟨v, rfl, -, -, hg3, hr3⟩ := hp
        have T9 := Lib.hid (T8.out.pick hg3 hr3 hgw)
        clear hg3 hr3 T8
        obtain ⟨q, hq⟩ : ∃ q, (v == 0) = q := ⟨_, rfl⟩
        go_upto_if 39 with fail
        go_cut [] (fun wx => ∃ lo hi : Int, TSt w g (f + 3) w.heap.size S Q (ts 0 0 0 false) (ts a 0 0 d) (pr lo hi) wx)
        case first =>
          cases q with
          | false =>
            go_wp2
            go_meet
            exact ⟨_, _, T9.out.less (by omega)⟩
          | true =>
            go_wp2_with fail
            have U0 := T9.out
            have U1 := U0.drew
            have R0 := U0.rdr
            have R1 := U1.rdr
            obtain ⟨l0, l1⟩ := U1.lts
            have c0 := U1.qb.c 0 rfl
            have c1 := U1.qb.c 1 rfl
            have f0 := U1.qb.f 0 rfl
            have f1 := U1.qb.f 1 rfl
            clear T9 hq
            go_region_with (go_at_call 61; ((with_reducible refine (pick_any g _ (f + 3) 3 _ (by first | with_reducible assumption | exact Rdr.alloc (by with_reducible assumption) _ | exact Rdr.drew (Rdr.alloc (by with_reducible assumption) _)) (by omega)).mono ?_); intro e w4 hp; obtain ⟨v, rfl, hv0, hv1, hg1, hr1⟩ := picked_lt (by omega) hp; clear hp; have U2 := TSt.pick (by first | with_reducible assumption | exact TSt.alloc (by with_reducible assumption) _ | exact TSt.drew (TSt.alloc (by with_reducible assumption) _)) hg1 hr1 hgw; obtain ⟨m0, m1⟩ := U2.lts; have d0 := U2.qb.c 0 rfl; have d1 := U2.qb.c 1 rfl; have d2 := U2.qb.f 0 rfl; have d3 := U2.qb.f 1 rfl; obtain ⟨k, rfl⟩ := Int.eq_ofNat_of_zero_le hv0; have hk3 : k < 3 := (by omega); (first | (have hg5 := undrawn hg1) | (have hg5 := hg1)); (first | ((with_reducible have hq := sel6_new hg5 (by assumption) hk3); obtain ⟨hl1, hl2⟩ := hq) | (have hsel1 := sel6_fst k hk3; have hsel2 := sel6_snd k hk3; have hsel3 := sel6_fst' k hk3; have hsel4 := sel6_snd' k hk3)); clear hg1 hg5))
            all_goals
              go_wp2
              all_goals
                go_meet
                first
                  | exact ⟨_, _, (U2.setQ hgw 0 _).setQ hgw 1 _⟩
                  | exact ⟨_, _, ((U2.alloc _).setQ hgw 0 _).setQ hgw 1 _⟩
                  | exact ⟨_, _, ((U2.setQ hgw 0 _).setQ hgw 1 _).alloc _⟩
                  | exact ⟨_, _, ((U2.drew.setQ hgw 0 _).setQ hgw 1 _)⟩
                  | exact ⟨_, _, ((U2.drew.setQ hgw 0 _).setQ hgw 1 _).alloc _⟩
        case rest =>
          clear T9 lo hi hq q v
          obtain ⟨lo, hi, st⟩ := hcut
          have T10 := Lib.hid st
          clear st
          go_upto_region 9 with fail
          go_cut [] (fun wx => TSt w g (f + 3) w.heap.size S Q (ts 0 0 0 false) (ts a lo 0 d) (pr lo hi) wx)
          case first =>
            have c0 := T10.out.qb.c 0 rfl
            have e1 := T10.out.q.sb.c 1 rfl
            have f1 := T10.out.q.sb.f 1 rfl
            go_wp2
            go_meet
            exact T10.out.set hgw 1 _
          case rest =>
            have T11 := Lib.hid hcut
            have c1 := T11.out.qb.c 1 rfl
            have e2 := T11.out.q.sb.c 2 rfl
            have f2 := T11.out.q.sb.f 2 rfl
            have ST := Lib.hid (T11.out.set hgw 2 (.int .i64 hi)).q
            clear T10 hcut T11
            go_wp2_with fail
            refine (odd_any g (f + 2) n _ hn0 hn1 ST.out.rdr).mono ?_
            intro e w2 hp
            obtain ⟨o, rfl, hg2, hr2⟩ := hp
            have S2 := Lib.hid (ST.out.pick hg2 hr2 hgw)
            clear hg2 hr2 ST c1 e2 f2
            go_upto_if 62 with fail
            go_cut [] (fun wx => ∃ (a lo hi : Int) (d : Bool), QSt w g f w.heap.size S (ts 0 0 0 false) (ts a lo hi d) wx)
            case first =>
              cases o with
              | false =>
                go_wp2
                go_meet
                exact ⟨a, lo, hi, d, S2.out.less (by omega)⟩
              | true =>
                go_wp2_with fail
                refine (pick_any g _ (f + 1) 3 _ S2.out.rdr rfl).mono ?_
                intro e w4 hp
                obtain ⟨x3, rfl, l3, u3, hg4, hr4⟩ := picked_lt (by omega) hp
                clear hp
                have S3 := Lib.hid (S2.out.pick hg4 hr4 hgw)
                clear hg4 hr4 S2
                by_cases h0 : x3 = 0
                · have b0 : (x3 == 0) = true := by simpa using h0
                  clear l3 u3
                  go_wp2_with fail
                  refine (pick_any g _ f 2 _ (S3.out.alloc _).rdr rfl).mono ?_
                  intro e w4 hp
                  obtain ⟨u, rfl, hu0, hu1, hg4, hr4⟩ := picked_lt (by omega) hp
                  clear hp
                  obtain ⟨k, rfl⟩ := Int.eq_ofNat_of_zero_le hu0
                  have hk2 : k < 2 := by omega
                  obtain ⟨x, hx, hcell⟩ := lit_pick [-1, 4] hg4 S3.out.rdr hk2
                  have S4 := Lib.hid ((S3.out.alloc _).pick hg4 hr4 hgw)
                  have c0 := S4.out.sb.c 0 rfl
                  have e0 := S4.out.sb.f 0 rfl
                  clear hg4 hr4 S3 hx
                  go_wp2
                  go_meet
                  exact ⟨_, _, _, _, S4.out.set hgw 0 _⟩
                · have b0 : (x3 == 0) = false := by simpa using h0
                  by_cases h1 : x3 = 1
                  · have b1 : (x3 == 1) = true := by simpa using h1
                    have c2 := S3.out.sb.c 2 rfl
                    have c1 := S3.out.sb.c 1 rfl
                    have e1 := S3.out.sb.f 1 rfl
                    clear l3 u3
                    go_wp2
                    go_meet
                    exact ⟨_, _, _, _, (S3.out.set hgw 1 _).less (by omega)⟩
                  · have b1 : (x3 == 1) = false := by simpa using h1
                    have c2 := S3.out.sb.c 2 rfl
                    have e2 := S3.out.sb.f 2 rfl
                    clear l3 u3
                    go_wp2
                    go_meet
                    exact ⟨_, _, _, _, (S3.out.set hgw 2 _).less (by omega)⟩
            case rest =>
              clear S2
              obtain ⟨a, b, c, d, st⟩ := hcut
              have c0 := st.sb.c 0 rfl
              have r0 := st.rb.c 0 rfl
              have q0 := st.rb.f 0 rfl
              have c1 := st.sb.c 1 rfl
              have r1 := st.rb.c 1 rfl
              have q1 := st.rb.f 1 rfl
              have c2 := st.sb.c 2 rfl
              have r2 := st.rb.c 2 rfl
              have q2 := st.rb.f 2 rfl
              have c3 := st.sb.c 3 rfl
              have r3 := st.rb.c 3 rfl
              have q3 := st.rb.f 3 rfl
              have h1 := st.hR
              have h2 := st.hS
              have h3 := st.sb.lt
              have ST := Lib.hid st
              clear st
              go_wp2_with fail
              refine bodyPost_ret (v := .agg #[.int .i64 a, .int .i64 b, .int .i64 c, .bool d]) (by simp [results, Tryd.results64, go_sem, r0, r1, r2, r3]) rfl ⟨a, b, c, d, rfl, ?_, ?_⟩
              · exact ((((ST.out.setR hgw 0 _).setR hgw 1 _).setR hgw 2 _).setR hgw 3 _).gr
              · exact ((((ST.out.setR hgw 0 _).setR hgw 1 _).setR hgw 2 _).setR hgw 3 _).rdr
end Go.Proofs.YtoapnjlpmjcloaaDoor
