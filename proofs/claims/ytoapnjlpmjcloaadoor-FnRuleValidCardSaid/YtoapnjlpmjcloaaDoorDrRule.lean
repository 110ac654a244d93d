/-
  WALK: spec.l20Rule (of chains 1..3): it answers some rule.
-/
import Derived.Test.YtoapnjlpmjcloaaDoorDrTests
import Derived.Test.YtoapnjlpmjcloaaDoorDrPacket
import Derived.Test.YtoapnjlpmjcloaaDoorRuleX
namespace Go.Proofs.YtoapnjlpmjcloaaDoor
open Go.ChangeShapes Go.WideShapes Go.ChangeAt Go.RowKit Go.Sort Pf
set_option maxRecDepth 20000

def rl (b n c : Nat) (a ch : Int) : List Value := [.slice (some ⟨b, 0, none⟩) n c, .int .i64 a, .int .i64 ch]
def rl0 : List Value := [.slice none 0 0, .int .i64 0, .int .i64 0]
/-- Result in block R, rule in block S, its tests in block b, the reader in block g. -/
structure RSt (w : World) (g f R S b c : Nat) (xs : TS) (a ch : Int) (wx : World) : Prop where
  q : QSt w g f R S rl0 (rl b xs.length c a ch) wx
  rt : Rt wx (some ⟨b, 0, none⟩) xs.length c xs
  ne : w.heap.size ≤ b ∧ b ≠ R ∧ b ≠ S
section
variable {w wx w' : World} {g f R S b c : Nat} {xs : TS} {a ch : Int}
theorem apart1 {b k : Nat} (h : b ≠ k) : ∀ q, (some ⟨b, 0, none⟩ : Option Addr) = some q → q.block ≠ k := by intro q hq; cases hq; exact h
theorem RSt.pick {n : Nat} (h : RSt w g f R S b c xs a ch wx) (hg : wx.grownBy w' (some g)) (hr : Rdr w' g n) (hgw : g < w.heap.size) : RSt w g n R S b c xs a ch w' :=
  ⟨h.q.pick hg hr hgw, h.rt.grown hg (apart1 (by have := h.ne.1; omega)), h.ne⟩
theorem RSt.alloc (h : RSt w g f R S b c xs a ch wx) (o : Obj) : RSt w g f R S b c xs a ch (wx.alloc o) := ⟨h.q.alloc o, h.rt.alloc o, h.ne⟩
theorem RSt.less {k : Nat} (h : RSt w g f R S b c xs a ch wx) (hk : k ≤ f) : RSt w g k R S b c xs a ch wx := ⟨h.q.less hk, h.rt, h.ne⟩
theorem RSt.rdr (h : RSt w g f R S b c xs a ch wx) : Rdr wx g f := h.q.rdr
theorem RSt.set1 (h : RSt w g f R S b c xs a ch wx) (hgw : g < w.heap.size) (x : Int) : RSt w g f R S b c xs x ch (wx.setCell ⟨S, 1, none⟩ (.int .i64 x)) := ⟨h.q.set hgw 1 _, h.rt.setCell _ _ (apart1 h.ne.2.2), h.ne⟩
theorem RSt.set2 (h : RSt w g f R S b c xs a ch wx) (hgw : g < w.heap.size) (x : Int) : RSt w g f R S b c xs a x (wx.setCell ⟨S, 2, none⟩ (.int .i64 x)) := ⟨h.q.set hgw 2 _, h.rt.setCell _ _ (apart1 h.ne.2.2), h.ne⟩
end
def DrewRule (g f : Nat) (w : World) (e : Ending) (w' : World) : Prop := ∃ (b c : Nat) (xs : TS) (a ch : Int), e = .returned (.agg #[.slice (some ⟨b, 0, none⟩) xs.length c, .int .i64 a, .int .i64 ch]) ∧ (Rt w' (some ⟨b, 0, none⟩) xs.length c xs ∧ w.heap.size ≤ b) ∧ w.grownBy w' (some g) ∧ Rdr w' g f

set_option maxHeartbeats 2000000 in
theorem drRule_any (g f : Nat) (n : Int) (w : World) (hn0 : 0 ≤ n) (hn1 : n ≤ 1000) (h : Rdr w g (f + 154)) :
    Calls Tryd.prog 72 #[.pointer (some ⟨g, 0, none⟩), .int .i64 1, .int .i64 3, .int .i64 n] w (DrewRule g f w) := by
  have hgw := h.lt
  have HR := Lib.hid (RB.start h #[.slice none 0 0, .int .i64 0, .int .i64 0] 48)
  clear h
  go_enter Tryd.func72, Tryd.ntmps72
  go_upto_region 1 with fail
  go_cut [9] (fun s9 wx => ∃ (S b c : Nat) (xs : TS) (a : Int), s9 = .pointer (some ⟨S, 0, none⟩) ∧ RSt w g (f + 78) w.heap.size S b c xs a 0 wx)
  case first =>
    go_wp2_with fail
    refine (drTests_any g (f + 79) 0 _ (by omega) (by omega) HR.out.rdr).mono ?_
    rintro e w2 ⟨A2, c2, xs, rfl, own2, ⟨hx, b2, hA2⟩, hg2, hr2⟩
    subst hA2
    have hb2 := own2.lt b2 rfl
    simp only [World.size_alloc] at hb2
    have S2 := Lib.hid (HR.out.pick hg2 hr2 hgw)
    have R2 := Lib.hid (Rt.of_own own2)
    clear hg2 hr2 own2 HR
    go_wp2_with fail
    refine (pick_any g _ (f + 78) 8 _ (S2.out.alloc _).rdr rfl).mono ?_
    intro e w3 hp
    obtain ⟨u, rfl, hu0, hu1, hg3, hr3⟩ := picked_lt (by omega) hp
    clear hp
    obtain ⟨k, rfl⟩ := Int.eq_ofNat_of_zero_le hu0
    have hk8 : k < 8 := by omega
    obtain ⟨x, hxx, hcell⟩ := lit_pick [1, 1, 2, 2, 3, 3, 4, 5] hg3 S2.out.rdr hk8
    have S3 := Lib.hid ((S2.out.alloc _).pick hg3 hr3 hgw)
    have R3 := Lib.hid ((R2.out.alloc _).grown hg3 (apart1 (show b2 ≠ g by omega)))
    have hz3 : w2.heap.size + 1 ≤ w3.heap.size := by have := hg3.size; simpa using this
    clear hg3 hr3 S2 R2 hxx
    go_wp2
    go_meet
    exact ⟨_, b2, c2, xs, x, rfl, S3.out.toQ #[.slice (some ⟨b2, 0, none⟩) xs.length c2, .int .i64 x, .int .i64 0] _, R3.out.alloc _, by omega, by omega, by omega⟩
  case rest =>
    obtain ⟨S, b, c, xs, a, rfl, st⟩ := hcut
    have ST := Lib.hid st
    have c1 := st.q.sb.c 1 rfl
    clear HR st
    go_upto_if 20 with fail
    go_cut [] (fun wx => ∃ a ch : Int, RSt w g (f + 77) w.heap.size S b c xs a ch wx)
    case first =>
      by_cases h3 : a = 3
      · have b3 : (a == 3) = true := by simpa using h3
        go_wp2_with fail
        refine (pick_any g _ (f + 77) 2 _ ST.out.rdr rfl).mono ?_
        intro e w4 hp
        obtain ⟨u, rfl, hu0, hu1, hg4, hr4⟩ := picked_lt (by omega) hp
        clear hp
        have S4 := Lib.hid (ST.out.pick hg4 hr4 hgw)
        have d2 := S4.out.q.sb.c 2 rfl
        have e2 := S4.out.q.sb.f 2 rfl
        have hw : IntKind.i64.wrap (1 + u) = 1 + u := IntWalk.i64_in _ (by omega)
        clear hg4 hr4 ST
        go_wp2
        go_meet
        exact ⟨_, _, S4.out.set2 hgw _⟩
      · have b3 : (a == 3) = false := by simpa using h3
        go_wp2
        go_meet
        exact ⟨_, _, ST.out.less (by omega)⟩
    case rest =>
      clear ST c1 a
      obtain ⟨a, ch, st⟩ := hcut
      have ST := Lib.hid st
      clear st
      go_wp2_with fail
      refine (odd_any g (f + 76) n _ hn0 hn1 ST.out.rdr).mono ?_
      intro e w5 hp
      obtain ⟨o, rfl, hg5, hr5⟩ := hp
      have S5 := Lib.hid (ST.out.pick hg5 hr5 hgw)
      clear hg5 hr5 ST
      go_upto_if 35 with fail
      go_cut [] (fun wx => ∃ (b c : Nat) (xs : TS) (a ch : Int), RSt w g f w.heap.size S b c xs a ch wx)
      case first =>
        cases o with
        | false =>
          go_wp2
          go_meet
          exact ⟨b, c, xs, a, ch, S5.out.less (by omega)⟩
        | true =>
          go_wp2_with fail
          refine (pick_any g _ (f + 75) 3 _ S5.out.rdr rfl).mono ?_
          intro e w6 hp
          obtain ⟨x3, rfl, l3, u3, hg6, hr6⟩ := picked_lt (by omega) hp
          clear hp
          have S6 := Lib.hid (S5.out.pick hg6 hr6 hgw)
          clear hg6 hr6 S5
          by_cases h0 : x3 = 0
          · have b0 : (x3 == 0) = true := by simpa using h0
            clear l3 u3
            go_wp2_with fail
            refine (pick_any g _ (f + 74) 2 _ (S6.out.alloc _).rdr rfl).mono ?_
            intro e w7 hp
            obtain ⟨u, rfl, hu0, hu1, hg7, hr7⟩ := picked_lt (by omega) hp
            clear hp
            obtain ⟨k, rfl⟩ := Int.eq_ofNat_of_zero_le hu0
            have hk2 : k < 2 := by omega
            obtain ⟨x, hx, hcell⟩ := lit_pick [0, 6] hg7 S6.out.rdr hk2
            have S7 := Lib.hid ((S6.out.alloc _).pick hg7 hr7 hgw)
            have d1 := S7.out.q.sb.c 1 rfl
            have e1 := S7.out.q.sb.f 1 rfl
            clear hg7 hr7 S6 hx
            go_wp2
            go_meet
            exact ⟨_, _, _, _, _, (S7.out.set1 hgw _).less (by omega)⟩
          · have b0 : (x3 == 0) = false := by simpa using h0
            by_cases h1 : x3 = 1
            · have b1 : (x3 == 1) = true := by simpa using h1
              clear l3 u3
              go_wp2_with fail
              refine (pick_any g _ (f + 74) 3 _ (S6.out.alloc _).rdr rfl).mono ?_
              intro e w7 hp
              obtain ⟨u, rfl, hu0, hu1, hg7, hr7⟩ := picked_lt (by omega) hp
              clear hp
              obtain ⟨k, rfl⟩ := Int.eq_ofNat_of_zero_le hu0
              have hk3 : k < 3 := by omega
              obtain ⟨x, hx, hcell⟩ := lit_pick [-1, 5, 1] hg7 S6.out.rdr hk3
              have S7 := Lib.hid ((S6.out.alloc _).pick hg7 hr7 hgw)
              have d1 := S7.out.q.sb.c 2 rfl
              have e1 := S7.out.q.sb.f 2 rfl
              clear hg7 hr7 S6 hx
              go_wp2
              go_meet
              exact ⟨_, _, _, _, _, (S7.out.set2 hgw _).less (by omega)⟩
            · have b1 : (x3 == 1) = false := by simpa using h1
              clear l3 u3
              go_wp2_with fail
              refine (drTests_any g f 1 _ (by omega) (by omega) S6.out.rdr).mono ?_
              rintro e w7 ⟨A7, c7, ys, rfl, own7, ⟨hy, b7, hA7⟩, hg7, hr7⟩
              subst hA7
              have hb7 := own7.lt b7 rfl
              have hsS := S6.out.q.sb.lt
              have hsR := S6.out.q.hS
              have hs6 := S6.out.q.gr.size
              have Q7 := S6.out.q.pick hg7 hr7 hgw
              have d0 := Q7.sb.c 0 rfl
              have e0 := Q7.sb.f 0 rfl
              have R7 := Lib.hid (Rt.of_own own7)
              have HQ7 := Lib.hid Q7
              clear hg7 hr7 own7 S6 Q7
              go_wp2
              go_meet
              exact ⟨b7, c7, ys, a, ch, HQ7.out.set hgw 0 _, R7.out.setCell _ _ (apart1 (show b7 ≠ S by omega)), by omega, by omega, by omega⟩
      case rest =>
        clear S5
        obtain ⟨b, c, xs, a, ch, st⟩ := hcut
        have c0 := st.q.sb.c 0 rfl
        have c1 := st.q.sb.c 1 rfl
        have c2 := st.q.sb.c 2 rfl
        have r0 := st.q.rb.c 0 rfl
        have r1 := st.q.rb.c 1 rfl
        have r2 := st.q.rb.c 2 rfl
        have q0 := st.q.rb.f 0 rfl
        have q1 := st.q.rb.f 1 rfl
        have q2 := st.q.rb.f 2 rfl
        have ST := Lib.hid st
        clear st
        go_wp2_with fail
        refine bodyPost_ret (v := .agg #[.slice (some ⟨b, 0, none⟩) xs.length c, .int .i64 a, .int .i64 ch]) (by simp [results, Tryd.results72, go_sem, r0, r1, r2]) rfl ⟨b, c, xs, a, ch, rfl, ⟨?_, ST.out.ne.1⟩, ?_, ?_⟩
        · exact (((ST.out.rt.setCell _ _ (apart1 ST.out.ne.2.1)).setCell _ _ (apart1 ST.out.ne.2.1)).setCell _ _ (apart1 ST.out.ne.2.1))
        · exact (((ST.out.q.setR hgw 0 _).setR hgw 1 _).setR hgw 2 _).gr
        · exact (((ST.out.q.setR hgw 0 _).setR hgw 1 _).setR hgw 2 _).rdr
end Go.Proofs.YtoapnjlpmjcloaaDoor
