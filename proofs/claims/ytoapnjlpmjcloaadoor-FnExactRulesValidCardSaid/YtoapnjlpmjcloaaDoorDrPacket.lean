/-
  WALK: spec.l20Packet: it answers some packet.
-/
import Derived.BigRegion
import Derived.Test.YtoapnjlpmjcloaaDoorBlk
namespace Go.Proofs.YtoapnjlpmjcloaaDoor
open Go.ChangeShapes Go.WideShapes Go.ChangeAt Go.RowKit Go.Sort Pf

/-- Only the result's block is there yet. -/
structure RB (w : World) (g f R : Nat) (rs : List Value) (wx : World) : Prop where
  gr : w.grownBy wx (some g)
  rdr : Rdr wx g f
  hR : w.heap.size ≤ R
  rb : Blk wx R rs
section
variable {w wx w' : World} {g f R : Nat} {rs : List Value}
theorem RB.start (h : Rdr w g f) (cs : Array Value) (t : TypeId) : RB w g f w.heap.size cs.toList (w.alloc (.cells cs t)) := ⟨below_grown (below_one w _), h.alloc _, Nat.le_refl _, Blk.new _ _ _⟩
theorem RB.pick {n : Nat} (h : RB w g f R rs wx) (hg : wx.grownBy w' (some g)) (hr : Rdr w' g n) (hgw : g < w.heap.size) : RB w g n R rs w' :=
  ⟨grownBy_trans h.gr hg, hr, h.hR, h.rb.grown hg (by have := h.hR; simp; omega)⟩
theorem RB.below (h : RB w g f R rs wx) (k : Below wx.heap.size wx w') : RB w g f R rs w' := ⟨grownBy_trans h.gr (below_grown k), h.rdr.below k, h.hR, h.rb.below k⟩
theorem RB.alloc (h : RB w g f R rs wx) (o : Obj) : RB w g f R rs (wx.alloc o) := h.below (below_one wx o)
theorem RB.toQ (h : RB w g f R rs wx) (cs : Array Value) (t : TypeId) : QSt w g f R wx.heap.size rs cs.toList (wx.alloc (.cells cs t)) :=
  ⟨(h.alloc _).gr, (h.alloc _).rdr, h.hR, h.rb.lt, (h.alloc _).rb, Blk.new _ _ _⟩
end

/-- An element of a list of numbers that was laid just before a pick. -/
theorem lit_pick {w3 w2 : World} {g F k : Nat} (cs : List Int) {t : TypeId} (hg : (w3.alloc (.cells (cs.map (Value.int .i64)).toArray t)).grownBy w2 (some g)) (hr : Rdr w3 g F) (hk : k < cs.length) : ∃ x, x ∈ cs ∧ w2.cell? ⟨w3.heap.size, k, none⟩ = some (.int .i64 x) := by
  refine ⟨cs[k], List.getElem_mem hk, grown_cell hg ?_ (by have := hr.lt; simp; omega)⟩
  simp [hk]

/-- A packet's cells. -/
def pk (a b c d : Int) : List Value := [.int .i64 a, .int .i64 b, .int .i64 c, .int .i64 d]
def DrewPkt (g f : Nat) (w : World) (e : Ending) (w' : World) : Prop := ∃ a b c d : Int, e = .returned (.agg #[.int .i64 a, .int .i64 b, .int .i64 c, .int .i64 d]) ∧ w.grownBy w' (some g) ∧ Rdr w' g f

set_option maxHeartbeats 1000000 in
theorem drPacket_any (g f : Nat) (n : Int) (w : World) (hn0 : 0 ≤ n) (hn1 : n ≤ 1000) (h : Rdr w g (f + 13)) :
    Calls Tryd.prog 60 #[.pointer (some ⟨g, 0, none⟩), .int .i64 n] w (DrewPkt g f w) := by
  have hgw := h.lt
  have HR := Lib.hid (RB.start h #[.int .i64 0, .int .i64 0, .int .i64 0, .int .i64 0] 24)
  clear h
  go_enter Tryd.func60, Tryd.ntmps60
  go_upto_region 1 with fail
  go_cut [5] (fun s5 wx => ∃ (S : Nat) (a b c d : Int), s5 = .pointer (some ⟨S, 0, none⟩) ∧ QSt w g (f + 9) w.heap.size S (pk 0 0 0 0) (pk a b c d) wx)
  case first =>
    go_wp2_with fail
    refine (pick_any g _ (f + 12) 20 _ HR.out.rdr rfl).mono ?_
    intro e w1 hp
    obtain ⟨a, rfl, ha0, ha1, hg1, hr1⟩ := hp
    have S1 := Lib.hid (HR.out.pick hg1 hr1 hgw)
    clear hg1 hr1 HR
    go_wp2_with fail
    refine (pick_any g _ (f + 11) 20 _ S1.out.rdr rfl).mono ?_
    intro e w2 hp
    obtain ⟨b, rfl, hb0, hb1, hg2, hr2⟩ := hp
    have S2 := Lib.hid (S1.out.pick hg2 hr2 hgw)
    clear hg2 hr2 S1
    go_wp2_with fail
    refine (pick_any g _ (f + 10) 256 _ S2.out.rdr rfl).mono ?_
    intro e w3 hp
    obtain ⟨c, rfl, hc0, hc1, hg3, hr3⟩ := hp
    have S3 := Lib.hid (S2.out.pick hg3 hr3 hgw)
    clear hg3 hr3 S2
    go_wp2_with fail
    refine (pick_any g _ (f + 9) 8 _ S3.out.rdr rfl).mono ?_
    intro e w4 hp
    obtain ⟨d, rfl, hd0, hd1, hg4, hr4⟩ := hp
    have S4 := Lib.hid (S3.out.pick hg4 hr4 hgw)
    clear hg4 hr4 S3
    go_wp2
    go_meet
    exact ⟨_, a, b, c, d, rfl, S4.out.toQ #[.int .i64 a, .int .i64 b, .int .i64 c, .int .i64 d] _⟩
  case rest =>
    obtain ⟨S, a, b, c, d, rfl, st⟩ := hcut
    have ST := Lib.hid st
    clear HR st
    go_wp2_with fail
    refine (pick_any g _ (f + 8) 2 _ ST.out.rdr rfl).mono ?_
    intro e w1 hp
    obtain ⟨v, rfl, hv0, hv1, hg1, hr1⟩ := hp
    have S1 := Lib.hid (ST.out.pick hg1 hr1 hgw)
    clear hg1 hr1 ST
    obtain ⟨q, hq⟩ : ∃ q, (v == 0) = q := ⟨_, rfl⟩
    clear hv0 hv1
    go_upto_if 17 with fail
    go_cut [] (fun wx => ∃ a b c d : Int, QSt w g (f + 3) w.heap.size S (pk 0 0 0 0) (pk a b c d) wx)
    case first =>
      cases q with
      | false =>
        go_wp2
        go_meet
        exact ⟨a, b, c, d, S1.out.less (by omega)⟩
      | true =>
        go_upto_region 3 with fail
        go_cut [] (fun wx => ∃ a : Int, QSt w g (f + 6) w.heap.size S (pk 0 0 0 0) (pk a b c d) wx)
        case first =>
          go_wp2_with fail
          refine (pick_any g _ (f + 7) 256 _ S1.out.rdr rfl).mono ?_
          intro e w2 hp
          obtain ⟨x2, rfl, -, -, hg2, hr2⟩ := hp
          have S2 := Lib.hid (S1.out.pick hg2 hr2 hgw)
          clear hg2 hr2 S1
          go_wp2_with fail
          refine (pick_any g _ (f + 6) 256 _ S2.out.rdr rfl).mono ?_
          intro e w3 hp
          obtain ⟨x3, rfl, -, -, hg3, hr3⟩ := hp
          have S3 := Lib.hid (S2.out.pick hg3 hr3 hgw)
          have c0 := S3.out.sb.c 0 rfl
          have e0 := S3.out.sb.f 0 rfl
          clear hg3 hr3 S2
          go_wp2
          go_meet
          exact ⟨_, S3.out.set hgw 0 _⟩
        case rest =>
          clear a S1
          obtain ⟨a, st3⟩ := hcut
          have T3 := Lib.hid st3
          clear st3
          go_upto_region 4 with fail
          go_cut [] (fun wx => ∃ b : Int, QSt w g (f + 4) w.heap.size S (pk 0 0 0 0) (pk a b c d) wx)
          case first =>
            go_wp2_with fail
            refine (pick_any g _ (f + 5) 4 _ T3.out.rdr rfl).mono ?_
            intro e w4 hp
            obtain ⟨x4, rfl, -, -, hg4, hr4⟩ := hp
            have S4 := Lib.hid (T3.out.pick hg4 hr4 hgw)
            clear hg4 hr4 T3
            go_wp2_with fail
            refine (pick_any g _ (f + 4) 256 _ S4.out.rdr rfl).mono ?_
            intro e w5 hp
            obtain ⟨x5, rfl, -, -, hg5, hr5⟩ := hp
            have S5 := Lib.hid (S4.out.pick hg5 hr5 hgw)
            have c1 := S5.out.sb.c 1 rfl
            have e1 := S5.out.sb.f 1 rfl
            clear hg5 hr5 S4
            go_wp2
            go_meet
            exact ⟨_, S5.out.set hgw 1 _⟩
          case rest =>
            clear b T3
            obtain ⟨b, st4⟩ := hcut
            have T4 := Lib.hid st4
            clear st4
            go_wp2_with fail
            refine (pick_any g _ (f + 3) 12 _ T4.out.rdr rfl).mono ?_
            intro e w6 hp
            obtain ⟨x6, rfl, -, -, hg6, hr6⟩ := hp
            have S6 := Lib.hid (T4.out.pick hg6 hr6 hgw)
            have c2 := S6.out.sb.c 2 rfl
            have e2 := S6.out.sb.f 2 rfl
            clear hg6 hr6 T4
            go_wp2
            go_meet
            exact ⟨_, _, _, _, S6.out.set hgw 2 _⟩
    case rest =>
      clear S1 a b c d
      obtain ⟨a, b, c, d, st⟩ := hcut
      have ST := Lib.hid st
      clear st
      go_wp2_with fail
      refine (odd_any g (f + 2) n _ hn0 hn1 ST.out.rdr).mono ?_
      intro e w2 hp
      obtain ⟨o, rfl, hg2, hr2⟩ := hp
      have S2 := Lib.hid (ST.out.pick hg2 hr2 hgw)
      clear hg2 hr2 ST
      go_upto_if 37 with fail
      go_cut [] (fun wx => ∃ a b c d : Int, QSt w g f w.heap.size S (pk 0 0 0 0) (pk a b c d) wx)
      case first =>
        cases o with
        | false =>
          go_wp2
          go_meet
          exact ⟨a, b, c, d, S2.out.less (by omega)⟩
        | true =>
          go_wp2_with fail
          refine (pick_any g _ (f + 1) 4 _ S2.out.rdr rfl).mono ?_
          intro e w3 hp
          obtain ⟨x3, rfl, l3, u3, hg3, hr3⟩ := picked_lt (by omega) hp
          clear hp
          have S3 := Lib.hid (S2.out.pick hg3 hr3 hgw)
          clear hg3 hr3 S2
          by_cases h0 : x3 = 0
          · have b0 : (x3 == 0) = true := by simpa using h0
            clear l3 u3
            go_wp2_with fail
            refine (pick_any g _ f 2 _ (S3.out.alloc _).rdr rfl).mono ?_
            intro e w4 hp
            obtain ⟨u, rfl, hu0, hu1, hg4, hr4⟩ := picked_lt (by omega) hp
            clear hp
            obtain ⟨k, rfl⟩ := Int.eq_ofNat_of_zero_le hu0
            have hk2 : k < 2 := by omega
            obtain ⟨x, hx, hcell⟩ := lit_pick [-1, 65536] hg4 S3.out.rdr hk2
            have S4 := Lib.hid ((S3.out.alloc _).pick hg4 hr4 hgw)
            have c0 := S4.out.sb.c 0 rfl
            have e0 := S4.out.sb.f 0 rfl
            clear hg4 hr4 S3 hx
            go_wp2
            go_meet
            exact ⟨_, _, _, _, S4.out.set hgw 0 _⟩
          · have b0 : (x3 == 0) = false := by simpa using h0
            by_cases h1 : x3 = 1
            · have b1 : (x3 == 1) = true := by simpa using h1
              clear l3 u3
              go_wp2_with fail
              refine (pick_any g _ f 2 _ (S3.out.alloc _).rdr rfl).mono ?_
              intro e w4 hp
              obtain ⟨u, rfl, hu0, hu1, hg4, hr4⟩ := picked_lt (by omega) hp
              clear hp
              obtain ⟨k, rfl⟩ := Int.eq_ofNat_of_zero_le hu0
              have hk2 : k < 2 := by omega
              obtain ⟨x, hx, hcell⟩ := lit_pick [-1, 65536] hg4 S3.out.rdr hk2
              have S4 := Lib.hid ((S3.out.alloc _).pick hg4 hr4 hgw)
              have c1 := S4.out.sb.c 1 rfl
              have e1 := S4.out.sb.f 1 rfl
              clear hg4 hr4 S3 hx
              go_wp2
              go_meet
              exact ⟨_, _, _, _, S4.out.set hgw 1 _⟩
            · have b1 : (x3 == 1) = false := by simpa using h1
              by_cases h2 : x3 = 2
              · have b2 : (x3 == 2) = true := by simpa using h2
                clear l3 u3
                go_wp2_with fail
                refine (pick_any g _ f 2 _ (S3.out.alloc _).rdr rfl).mono ?_
                intro e w4 hp
                obtain ⟨u, rfl, hu0, hu1, hg4, hr4⟩ := picked_lt (by omega) hp
                clear hp
                obtain ⟨k, rfl⟩ := Int.eq_ofNat_of_zero_le hu0
                have hk2 : k < 2 := by omega
                obtain ⟨x, hx, hcell⟩ := lit_pick [-1, 256] hg4 S3.out.rdr hk2
                have S4 := Lib.hid ((S3.out.alloc _).pick hg4 hr4 hgw)
                have c2 := S4.out.sb.c 2 rfl
                have e2 := S4.out.sb.f 2 rfl
                clear hg4 hr4 S3 hx
                go_wp2
                go_meet
                exact ⟨_, _, _, _, S4.out.set hgw 2 _⟩
              · have b2 : (x3 == 2) = false := by simpa using h2
                clear l3 u3
                go_wp2_with fail
                refine (pick_any g _ f 2 _ (S3.out.alloc _).rdr rfl).mono ?_
                intro e w4 hp
                obtain ⟨u, rfl, hu0, hu1, hg4, hr4⟩ := picked_lt (by omega) hp
                clear hp
                obtain ⟨k, rfl⟩ := Int.eq_ofNat_of_zero_le hu0
                have hk2 : k < 2 := by omega
                obtain ⟨x, hx, hcell⟩ := lit_pick [-1, 8] hg4 S3.out.rdr hk2
                have S4 := Lib.hid ((S3.out.alloc _).pick hg4 hr4 hgw)
                have c3 := S4.out.sb.c 3 rfl
                have e3 := S4.out.sb.f 3 rfl
                clear hg4 hr4 S3 hx
                go_wp2
                go_meet
                exact ⟨_, _, _, _, S4.out.set hgw 3 _⟩
      case rest =>
        clear S2 a b c d
        obtain ⟨a, b, c, d, st⟩ := hcut
        have c0 := st.sb.c 0 rfl
        have r0 := st.rb.c 0 rfl
        have q0 := st.rb.f 0 rfl
        have c1 := st.sb.c 1 rfl
        have r1 := st.rb.c 1 rfl
        have q1 := st.rb.f 1 rfl
        have c2 := st.sb.c 2 rfl
        have r2 := st.rb.c 2 rfl
        have q2 := st.rb.f 2 rfl
        have c3 := st.sb.c 3 rfl
        have r3 := st.rb.c 3 rfl
        have q3 := st.rb.f 3 rfl
        have h1 := st.hR
        have h2 := st.hS
        have h3 := st.sb.lt
        have ST := Lib.hid st
        clear st
        go_wp2_with fail
        refine bodyPost_ret (v := .agg #[.int .i64 a, .int .i64 b, .int .i64 c, .int .i64 d]) (by simp [results, Tryd.results60, go_sem, r0, r1, r2, r3]) rfl ⟨a, b, c, d, rfl, ?_, ?_⟩
        · exact ((((ST.out.setR hgw 0 _).setR hgw 1 _).setR hgw 2 _).setR hgw 3 _).gr
        · exact ((((ST.out.setR hgw 0 _).setR hgw 1 _).setR hgw 2 _).setR hgw 3 _).rdr
end Go.Proofs.YtoapnjlpmjcloaaDoor
