/-
  WALK: spec.l20Near: it answers some packet.
-/
import Derived.Test.YtoapnjlpmjcloaaDoorDrTest
import Derived.Test.YtoapnjlpmjcloaaDoorMemT
import Derived.Deep.LoopGhost
namespace Go.Proofs.YtoapnjlpmjcloaaDoor
open Go.ChangeShapes Go.WideShapes Go.ChangeAt Go.RowKit Go.Sort Pf
set_option maxRecDepth 20000

theorem Rt.grown {w w' : World} {A : Option Addr} {n c g : Nat} {xs : TS} (h : Rt w A n c xs) (hg : w.grownBy w' (some g)) (ha : ∀ a, A = some a → a.block ≠ g) : Rt w' A n c xs := by
  obtain ⟨h1, h2, h3, h4⟩ := h
  refine ⟨h1, h2, h3, fun hn => ?_⟩
  obtain ⟨b, o, e, hb, hc⟩ := h4 hn
  have hne : (some g : Option Nat) ≠ some b := by have := ha _ e; simp only at this; intro hh; exact this (Option.some.inj hh).symm
  refine ⟨b, o, e, Nat.lt_of_lt_of_le hb hg.size, fun k x hx => ?_⟩
  obtain ⟨c1, c2, c3, c4⟩ := hc k x hx
  exact ⟨grown_cell hg c1 hne, grown_cell hg c2 hne, grown_cell hg c3 hne, grown_cell hg c4 hne⟩
def selQ (a b c d : Int) : Nat → Int
  | 0 => a
  | 1 => b
  | 2 => c
  | _ => d
theorem selQ_get' (k : Nat) (hk : k < 4) (a b c d : Int) : ([Value.int .i64 a, .int .i64 b, .int .i64 c, .int .i64 d] : List Value)[k]? = some (.int .i64 (selQ a b c d k)) := by
  match k, hk with
  | 0, _ => rfl
  | 1, _ => rfl
  | 2, _ => rfl
  | 3, _ => rfl
theorem selQ_get (k : Nat) (hk : k < 4) (a b c d : Int) : ([Value.int .i64 a, .int .i64 b, .int .i64 c, .int .i64 d] : List Value)[k]'(by simpa using hk) = .int .i64 (selQ a b c d k) :=
  Option.some.inj ((List.getElem?_eq_getElem _).symm.trans (selQ_get' k hk a b c d))
theorem selQ_new {w3 w2 : World} {g F k : Nat} {a b c d : Int} {t : TypeId} (hg : (w3.alloc (.cells #[.int .i64 a, .int .i64 b, .int .i64 c, .int .i64 d] t)).grownBy w2 (some g)) (hr : Rdr w3 g F) (hk : k < 4) : w2.cell? ⟨w3.heap.size, k, none⟩ = some (.int .i64 (selQ a b c d k)) := by
  refine grown_cell hg ?_ (by have := hr.lt; simp; omega)
  match k, hk with
  | 0, _ => (show World.cell? _ _ = some (.int .i64 a)); go_cell
  | 1, _ => (show World.cell? _ _ = some (.int .i64 b)); go_cell
  | 2, _ => (show World.cell? _ _ = some (.int .i64 c)); go_cell
  | 3, _ => (show World.cell? _ _ = some (.int .i64 d)); go_cell

set_option linter.unusedSimpArgs false in
set_option maxHeartbeats 4000000 in
theorem drNear_any (g f : Nat) (n : Int) (A : Option Addr) (m c : Nat) (xs : TS) (w : World) (hn0 : 0 ≤ n) (hn1 : n ≤ 1000) (h : Rdr w g (f + 2 * m + 13)) (hr : Rt w A m c xs) (ha : ∀ a, A = some a → a.block ≠ g) :
    Calls Tryd.prog 73 #[.pointer (some ⟨g, 0, none⟩), .slice A m c, .int .i64 n] w (DrewPkt g f w) := by
  obtain rfl : xs.length = m := hr.len
  have hmax : xs.length ≤ maxLen := Nat.le_trans hr.2.1 hr.2.2.1
  unfold maxLen at hmax
  have hgw := h.lt
  have HA := Lib.hid ha
  have HL := Lib.hid hr
  have HR := Lib.hid (RB.start h #[.int .i64 0, .int .i64 0, .int .i64 0, .int .i64 0] 24)
  clear h hr ha
  go_enter Tryd.func73, Tryd.ntmps73
  go_wp2_with fail
  refine (drPacket_any g (f + 2 * xs.length) n _ hn0 hn1 HR.out.rdr).mono ?_
  rintro e w1 ⟨p0, p1, p2, p3, rfl, hg1, hr1⟩
  have S1 := HR.out.pick hg1 hr1 hgw
  have ST := Lib.hid (S1.toQ #[.int .i64 p0, .int .i64 p1, .int .i64 p2, .int .i64 p3] 24)
  clear S1 hg1 hr1 HR
  go_upto_region 3 with fail
  generalize hPv : w1.heap.size = P at ST
  generalize w1.alloc (.cells #[.int .i64 p0, .int .i64 p1, .int .i64 p2, .int .i64 p3] 24) = W at ST ⊢
  clear hPv
  go_loopg [8] xs.length (fun gh i wr => ∃ (k : Nat) (a b c d : Int), gh + k = xs.length ∧ i = .int .i64 k ∧ QSt w g (f + 2 * gh) w.heap.size P (pk 0 0 0 0) (pk a b c d) wr)
  case atStart => exact ⟨0, p0, p1, p2, p3, by omega, rfl, ST.out⟩
  case round =>
    clear ST
    obtain ⟨k, a, b, c', d, hg, rfl, st⟩ := hrel
    have HG := Lib.hid hg
    have ST := Lib.hid st
    have hk : k ≤ xs.length := by omega
    clear hg st
    by_cases hkn : k < xs.length
    · obtain ⟨gq, rfl⟩ : ∃ gq, gk = gq + 1 := ⟨gk - 1, by have := HG.out; omega⟩
      obtain ⟨bb, oo, hA, hbl, hc0⟩ := (HL.out.grown ST.out.gr HA.out).at_ hkn
      have hne : bb ≠ g := HA.out _ hA
      obtain ⟨c0, c1, c2, c3⟩ := hc0 hkn
      have hbw : bb < w.heap.size := by
        obtain ⟨b', o', e', hb', -⟩ := HL.out.at_ hkn
        rw [hA] at e'
        injection e' with e'
        injection e' with e1
        omega
      generalize xs[k] = x at c0 c1 c2 c3
      obtain ⟨fl, lo, hi, nt⟩ := x
      simp only at c0 c1 c2 c3
      have hki : (k : Int) < xs.length := by omega
      have hk0 : (0 : Int) ≤ k := by omega
      have HC := Lib.hid (show ∀ w', wr.grownBy w' (some g) → (w'.cell? ⟨bb, oo + k * 4, none⟩ = some (.int .i64 fl) ∧ w'.cell? ⟨bb, oo + k * 4 + 1, none⟩ = some (.int .i64 lo) ∧ w'.cell? ⟨bb, oo + k * 4 + 2, none⟩ = some (.int .i64 hi)) from fun w' hh => ⟨grown_cell hh c0 (by simp; omega), grown_cell hh c1 (by simp; omega), grown_cell hh c2 (by simp; omega)⟩)
      have HAS := Lib.hid hA
      clear hc0 HL HA
      subst hA
      go_upto_region 5 with fail
      go_cut [29] (fun s29 wx => ∃ q : Bool, s29 = .bool q ∧ (q = false → tsB fl lo hi = true) ∧ wr.grownBy wx (some g) ∧ QSt w g (f + 2 * gq + 1) w.heap.size P (pk 0 0 0 0) (pk a b c' d) wx)
      case first =>
        go_wp2_with fail
        refine (sTestValid_any fl lo hi nt _).mono ?_
        rintro e w2 ⟨rfl, hb2⟩
        have G2 := Lib.hid (below_grown (row := some g) hb2)
        have S2 := Lib.hid (ST.out.below hb2)
        clear hb2
        cases hq : tsB fl lo hi with
        | false =>
          go_wp2
          go_meet
          exact ⟨true, rfl, by simp, G2.out, S2.out.less (by omega)⟩
        | true =>
          go_wp2_with fail
          refine (pick_any g _ (f + 2 * gq + 1) 3 _ S2.out.rdr (by omega)).mono ?_
          intro e w3 hp
          obtain ⟨v, rfl, -, -, hg3, hr3⟩ := hp
          have G3 := Lib.hid (grownBy_trans G2.out hg3)
          have S3 := Lib.hid (S2.out.pick hg3 hr3 hgw)
          clear hg3 hr3 S2 G2
          go_wp2
          go_meet
          exact ⟨_, rfl, fun _ => hq, G3.out, S3.out⟩
      case rest =>
        obtain ⟨q, rfl, hqt, hgx, st⟩ := hcut
        have SX := Lib.hid st
        clear st
        cases q with
        | true =>
          go_wp2
          go_roundg gq
          case measure => omega
          case rel => exact ⟨k + 1, a, b, c', d, by have := HG.out; omega, by go_num, SX.out.less (by omega)⟩
        | false =>
          have htv := hqt rfl
          obtain ⟨⟨fl0, fl3⟩, ⟨lo0, lohi⟩, hitop⟩ := tsB_iff.1 htv
          have htb := topF_bd fl0 fl3
          obtain ⟨x0, x1, x2⟩ := HC.out _ hgx
          clear c0 c1 c2 c3 hqt htv
          have CT := fun W => sFieldTop_any fl W
          generalize topF fl = top at hitop htb CT
          have CT := Lib.hid CT
          have hw1 : IntKind.i64.wrap (lo - 1) = lo - 1 := IntWalk.i64_in _ (by omega)
          have hw2 : IntKind.i64.wrap (hi + 1) = hi + 1 := IntWalk.i64_in _ (by omega)
          go_upto_region 6 with fail
          go_cut [9] (fun s9 wx => ∃ x : Int, s9 = .int .i64 x ∧ wr.grownBy wx (some g) ∧ QSt w g (f + 2 * gq) w.heap.size P (pk 0 0 0 0) (pk a b c' d) wx)
          case first =>
            have GX := hgx
            have SD : QSt w g (f + 2 * gq + 1) w.heap.size P (pk 0 0 0 0) (pk a b c' d) wc.drew := SX.out.drewN 1
            have S0 := SX.out
            have R0 := S0.rdr
            have R1 : Rdr wc.drew g (f + 2 * gq + 1) := SD.rdr
            obtain ⟨y0, y1, y2⟩ := HC.out wc.drew (grownBy_trans hgx (grownBy_drewN _ 1 _))
            obtain ⟨mx, hmx⟩ : ∃ mx, (if 1 < lo then lo - 1 else 0) = mx := ⟨_, rfl⟩
            obtain ⟨mn, hmn⟩ : ∃ mn, (if hi + 1 < top then hi + 1 else top) = mn := ⟨_, rfl⟩
            refine wp_region_held_drew (S := fun w' => w'.cell? ⟨bb, oo + k * 4, none⟩ = some (.int .i64 fl) ∧ w'.cell? ⟨bb, oo + k * 4 + 1, none⟩ = some (.int .i64 lo) ∧ w'.cell? ⟨bb, oo + k * 4 + 2, none⟩ = some (.int .i64 hi)) (by kernel_rfl) (by (try dsimp only); exact ⟨y0, y1, y2⟩) (fun hHeld => ?_)
            refine wpAnyH_take (i := 0) (v := ?_) rfl (by kernel_rfl) (by kernel_rfl) (by kernel_rfl) (fun _ _ _ h => h) (Or.inl ⟨by rfl, ?_⟩) (by assumption) ?_
            rotate_left
            · intro w' hSw; (try dsimp only at hSw); go_simp; try with_reducible rfl
            (try simp only [List.getElem_toArray, List.getElem_cons_succ, List.getElem_cons_zero, Act.put, List.setIfInBounds_toArray, List.set_cons_zero, List.set_cons_succ])
            refine wpAnyH_take (i := 1) (v := ?_) rfl (by kernel_rfl) (by kernel_rfl) (by kernel_rfl) (fun _ _ _ h => h) (Or.inl ⟨by rfl, ?_⟩) (by assumption) ?_
            rotate_left
            · intro w' hSw; (try dsimp only at hSw); go_simp; try with_reducible rfl
            (try simp only [List.getElem_toArray, List.getElem_cons_succ, List.getElem_cons_zero, Act.put, List.setIfInBounds_toArray, List.set_cons_zero, List.set_cons_succ])
            refine wpAnyH_take (i := 2) (v := ?_) rfl (by kernel_rfl) (by kernel_rfl) (by kernel_rfl) (fun _ _ _ h => h) (Or.inl ⟨by rfl, ?_⟩) (by assumption) ?_
            rotate_left
            · intro w' hSw; (try dsimp only at hSw); go_simp; try with_reducible rfl
            (try simp only [List.getElem_toArray, List.getElem_cons_succ, List.getElem_cons_zero, Act.put, List.setIfInBounds_toArray, List.set_cons_zero, List.set_cons_succ])
            refine wpAnyH_take (i := 3) (v := ?_) rfl (by kernel_rfl) (by kernel_rfl) (by kernel_rfl) (fun _ _ _ h => h) (Or.inl ⟨by rfl, ?_⟩) (by assumption) ?_
            rotate_left
            · intro w' hSw; (try dsimp only at hSw); go_simp; try with_reducible rfl
            (try simp only [List.getElem_toArray, List.getElem_cons_succ, List.getElem_cons_zero, Act.put, List.setIfInBounds_toArray, List.set_cons_zero, List.set_cons_succ])
            refine wpAnyH_take (i := 4) (v := ?_) rfl (by kernel_rfl) (by kernel_rfl) (by kernel_rfl) (fun _ _ _ h => h) (Or.inl ⟨by rfl, ?_⟩) (by assumption) ?_
            rotate_left
            · intro w' hSw; (try dsimp only at hSw); go_simp; try with_reducible rfl
            (try simp only [List.getElem_toArray, List.getElem_cons_succ, List.getElem_cons_zero, Act.put, List.setIfInBounds_toArray, List.set_cons_zero, List.set_cons_succ])
            refine wpAnyH_take (i := 5) (v := ?_) rfl (by kernel_rfl) (by kernel_rfl) (by kernel_rfl) (fun _ _ _ h => h) (Or.inl ⟨by rfl, ?_⟩) (by assumption) ?_
            rotate_left
            · intro w' hSw; (try dsimp only at hSw); go_simp; try with_reducible rfl
            (try simp only [List.getElem_toArray, List.getElem_cons_succ, List.getElem_cons_zero, Act.put, List.setIfInBounds_toArray, List.set_cons_zero, List.set_cons_succ])
            refine wpAnyH_take (i := 6) (v := ?_) rfl (by kernel_rfl) (by kernel_rfl) (by kernel_rfl) (fun _ _ _ h => h) (Or.inl ⟨by rfl, ?_⟩) (by assumption) ?_
            rotate_left
            · intro w' hSw; (try dsimp only at hSw); go_simp; try with_reducible rfl
            (try simp only [List.getElem_toArray, List.getElem_cons_succ, List.getElem_cons_zero, Act.put, List.setIfInBounds_toArray, List.set_cons_zero, List.set_cons_succ])
            refine wpAnyH_take (i := 7) (v := ?_) rfl (by kernel_rfl) (by kernel_rfl) (by kernel_rfl) (fun _ _ _ h => h) (Or.inl ⟨by rfl, ?_⟩) (by assumption) ?_
            rotate_left
            · intro w' hSw; (try dsimp only at hSw); go_simp; try with_reducible rfl
            (try simp only [List.getElem_toArray, List.getElem_cons_succ, List.getElem_cons_zero, Act.put, List.setIfInBounds_toArray, List.set_cons_zero, List.set_cons_succ])
            refine wpAnyH_take (i := 8) (v := ?_) rfl (by kernel_rfl) (by kernel_rfl) (by kernel_rfl) (fun _ _ _ h => h) (Or.inl ⟨by rfl, ?_⟩) (by assumption) ?_
            rotate_left
            · intro w' hSw; (try dsimp only at hSw); go_simp; try with_reducible rfl
            (try simp only [List.getElem_toArray, List.getElem_cons_succ, List.getElem_cons_zero, Act.put, List.setIfInBounds_toArray, List.set_cons_zero, List.set_cons_succ])
            refine wpAnyH_take (i := 9) (v := ?_) rfl (by kernel_rfl) (by kernel_rfl) (by kernel_rfl) (fun _ _ _ h => h) (Or.inl ⟨by rfl, ?_⟩) (by assumption) ?_
            rotate_left
            · intro w' hSw; (try dsimp only at hSw); go_simp; try with_reducible rfl
            (try simp only [List.getElem_toArray, List.getElem_cons_succ, List.getElem_cons_zero, Act.put, List.setIfInBounds_toArray, List.set_cons_zero, List.set_cons_succ])
            refine wpAnyH_take (i := 10) (v := ?_) rfl (by kernel_rfl) (by kernel_rfl) (by kernel_rfl) (fun _ _ _ h => h) (Or.inl ⟨by rfl, ?_⟩) (by assumption) ?_
            rotate_left
            · intro w' hSw; (try dsimp only at hSw); go_simp; try with_reducible rfl
            (try simp only [List.getElem_toArray, List.getElem_cons_succ, List.getElem_cons_zero, Act.put, List.setIfInBounds_toArray, List.set_cons_zero, List.set_cons_succ])
            refine wpAnyH_take (i := 11) (v := ?_) rfl (by kernel_rfl) (by kernel_rfl) (by kernel_rfl) (fun _ _ _ h => h) (Or.inl ⟨by rfl, ?_⟩) (by assumption) ?_
            rotate_left
            · intro w' hSw; (try dsimp only at hSw); go_simp; try with_reducible rfl
            (try simp only [List.getElem_toArray, List.getElem_cons_succ, List.getElem_cons_zero, Act.put, List.setIfInBounds_toArray, List.set_cons_zero, List.set_cons_succ])
            refine wpAnyH_take (i := 12) (v := ?_) rfl (by kernel_rfl) (by kernel_rfl) (by kernel_rfl) (fun _ _ _ h => h) (Or.inl ⟨by rfl, ?_⟩) (by assumption) ?_
            rotate_left
            · intro w' hSw; (try dsimp only at hSw); go_simp; try with_reducible rfl
            (try simp only [List.getElem_toArray, List.getElem_cons_succ, List.getElem_cons_zero, Act.put, List.setIfInBounds_toArray, List.set_cons_zero, List.set_cons_succ])
            refine wpAnyH_take (i := 13) (v := ?_) rfl (by kernel_rfl) (by kernel_rfl) (by kernel_rfl) (fun _ _ _ h => h) (Or.inl ⟨by rfl, ?_⟩) (by assumption) ?_
            rotate_left
            · intro w' hSw; (try dsimp only at hSw); go_simp; try with_reducible rfl
            (try simp only [List.getElem_toArray, List.getElem_cons_succ, List.getElem_cons_zero, Act.put, List.setIfInBounds_toArray, List.set_cons_zero, List.set_cons_succ])
            refine wpAnyH_take (i := 14) (v := ?_) rfl (by kernel_rfl) (by kernel_rfl) (by kernel_rfl) (fun _ _ _ h => h) (Or.inl ⟨by rfl, ?_⟩) (by assumption) ?_
            rotate_left
            · intro w' hSw; (try dsimp only at hSw); go_simp; try with_reducible rfl
            (try simp only [List.getElem_toArray, List.getElem_cons_succ, List.getElem_cons_zero, Act.put, List.setIfInBounds_toArray, List.set_cons_zero, List.set_cons_succ])
            refine wpAnyH_take (i := 15) (v := ?_) rfl (by kernel_rfl) (by kernel_rfl) (by kernel_rfl) (fun _ _ _ h => h) (Or.inl ⟨by rfl, ?_⟩) (by assumption) ?_
            rotate_left
            · intro w' hSw; (try dsimp only at hSw); go_simp; try with_reducible rfl
            (try simp only [List.getElem_toArray, List.getElem_cons_succ, List.getElem_cons_zero, Act.put, List.setIfInBounds_toArray, List.set_cons_zero, List.set_cons_succ])
            refine wpAnyH_take (i := 17) (v := ?_) rfl (by kernel_rfl) (by kernel_rfl) (by kernel_rfl) (fun _ _ _ h => h) (Or.inl ⟨by rfl, ?_⟩) (by assumption) ?_
            rotate_left
            · intro w' hSw; (try dsimp only at hSw); go_simp; try with_reducible rfl
            (try simp only [List.getElem_toArray, List.getElem_cons_succ, List.getElem_cons_zero, Act.put, List.setIfInBounds_toArray, List.set_cons_zero, List.set_cons_succ])
            refine wpAnyH_take (i := 18) (v := ?_) rfl (by kernel_rfl) (by kernel_rfl) (by kernel_rfl) (fun _ _ _ h => h) (Or.inl ⟨by rfl, ?_⟩) (by assumption) ?_
            rotate_left
            · intro w' hSw; (try dsimp only at hSw); go_simp; try with_reducible rfl
            (try simp only [List.getElem_toArray, List.getElem_cons_succ, List.getElem_cons_zero, Act.put, List.setIfInBounds_toArray, List.set_cons_zero, List.set_cons_succ])
            refine wpAnyH_take (i := 19) (v := ?_) rfl (by kernel_rfl) (by kernel_rfl) (by kernel_rfl) (fun _ _ _ h => h) (Or.inl ⟨by rfl, ?_⟩) (by assumption) ?_
            rotate_left
            · intro w' hSw; (try dsimp only at hSw); go_simp; try with_reducible rfl
            (try simp only [List.getElem_toArray, List.getElem_cons_succ, List.getElem_cons_zero, Act.put, List.setIfInBounds_toArray, List.set_cons_zero, List.set_cons_succ])
            refine wpAnyH_take (i := 20) (v := ?_) rfl (by kernel_rfl) (by kernel_rfl) (by kernel_rfl) (fun _ _ _ h => h) (Or.inl ⟨by rfl, ?_⟩) (by assumption) ?_
            rotate_left
            · intro w' hSw; (try dsimp only at hSw); go_simp; try with_reducible rfl
            (try simp only [List.getElem_toArray, List.getElem_cons_succ, List.getElem_cons_zero, Act.put, List.setIfInBounds_toArray, List.set_cons_zero, List.set_cons_succ])
            refine wpAnyH_take (i := 21) (v := ?_) rfl (by kernel_rfl) (by kernel_rfl) (by kernel_rfl) (fun _ _ _ h => h) (Or.inl ⟨by rfl, ?_⟩) (by assumption) ?_
            rotate_left
            · intro w' hSw; (try dsimp only at hSw); go_simp; try with_reducible rfl
            (try simp only [List.getElem_toArray, List.getElem_cons_succ, List.getElem_cons_zero, Act.put, List.setIfInBounds_toArray, List.set_cons_zero, List.set_cons_succ])
            refine wpAnyH_take (i := 23) (v := ?_) rfl (by kernel_rfl) (by kernel_rfl) (by kernel_rfl) (fun _ _ _ h => h) (Or.inl ⟨by rfl, ?_⟩) (by assumption) ?_
            rotate_left
            · intro w' hSw; (try dsimp only at hSw); go_simp; try with_reducible rfl
            (try simp only [List.getElem_toArray, List.getElem_cons_succ, List.getElem_cons_zero, Act.put, List.setIfInBounds_toArray, List.set_cons_zero, List.set_cons_succ])
            refine wpAnyH_take (i := 24) (v := ?_) rfl (by kernel_rfl) (by kernel_rfl) (by kernel_rfl) (fun _ _ _ h => h) (Or.inl ⟨by rfl, ?_⟩) (by assumption) ?_
            rotate_left
            · intro w' hSw; (try dsimp only at hSw); go_simp; try with_reducible rfl
            (try simp only [List.getElem_toArray, List.getElem_cons_succ, List.getElem_cons_zero, Act.put, List.setIfInBounds_toArray, List.set_cons_zero, List.set_cons_succ])
            refine wpAnyH_take (i := 25) (v := ?_) rfl (by kernel_rfl) (by kernel_rfl) (by kernel_rfl) (fun _ _ _ h => h) (Or.inl ⟨by rfl, ?_⟩) (by assumption) ?_
            rotate_left
            · intro w' hSw; (try dsimp only at hSw); go_simp; try with_reducible rfl
            (try simp only [List.getElem_toArray, List.getElem_cons_succ, List.getElem_cons_zero, Act.put, List.setIfInBounds_toArray, List.set_cons_zero, List.set_cons_succ])
            refine wpAnyH_take (i := 26) (v := ?_) rfl (by kernel_rfl) (by kernel_rfl) (by kernel_rfl) (fun _ _ _ h => h) (Or.inl ⟨by rfl, ?_⟩) (by assumption) ?_
            rotate_left
            · intro w' hSw; (try dsimp only at hSw); go_simp; try with_reducible rfl
            (try simp only [List.getElem_toArray, List.getElem_cons_succ, List.getElem_cons_zero, Act.put, List.setIfInBounds_toArray, List.set_cons_zero, List.set_cons_succ])
            refine wpAnyH_take (i := 27) (v := ?_) rfl (by kernel_rfl) (by kernel_rfl) (by kernel_rfl) (fun _ _ _ h => h) (Or.inl ⟨by rfl, ?_⟩) (by assumption) ?_
            rotate_left
            · intro w' hSw; (try dsimp only at hSw); go_simp; try with_reducible rfl
            (try simp only [List.getElem_toArray, List.getElem_cons_succ, List.getElem_cons_zero, Act.put, List.setIfInBounds_toArray, List.set_cons_zero, List.set_cons_succ])
            refine wpAnyH_take (i := 28) (v := ?_) rfl (by kernel_rfl) (by kernel_rfl) (by kernel_rfl) (fun _ _ _ h => h) (Or.inl ⟨by rfl, ?_⟩) (by assumption) ?_
            rotate_left
            · intro w' hSw; (try dsimp only at hSw); go_simp; try with_reducible rfl
            (try simp only [List.getElem_toArray, List.getElem_cons_succ, List.getElem_cons_zero, Act.put, List.setIfInBounds_toArray, List.set_cons_zero, List.set_cons_succ])
            refine wpAnyH_take (i := 31) (v := ?_) rfl (by kernel_rfl) (by kernel_rfl) (by kernel_rfl) (fun _ _ _ h => h) (Or.inl ⟨by rfl, ?_⟩) (by assumption) ?_
            rotate_left
            · intro w' hSw; (try dsimp only at hSw); go_simp; try with_reducible rfl
            (try simp only [List.getElem_toArray, List.getElem_cons_succ, List.getElem_cons_zero, Act.put, List.setIfInBounds_toArray, List.set_cons_zero, List.set_cons_succ])
            refine wpAnyH_ready (rs := [16, 22]) (by kernel_rfl) (by simp) ?_
            refine AllReadyH.cons rfl (fun K hK => ?_) (AllReadyH.cons rfl (fun K hK => ?_) (AllReadyH.nil))
            · go_simp
              refine hK.out _ _ (by (try dsimp only); (first | assumption | exact ⟨by assumption, by assumption, by assumption⟩ | go_keep)) (fun hHeld => ?_)
              clear hK K
              (try simp only [List.getElem_toArray, List.getElem_cons_succ, List.getElem_cons_zero, Act.put, List.setIfInBounds_toArray, List.set_cons_zero, List.set_cons_succ])
              refine wpAnyH_ready (rs := [22]) (by kernel_rfl) (by simp) ?_
              refine AllReadyH.cons rfl (fun K hK => ?_) AllReadyH.nil
              go_simp
              (go_at_call 65; (with_reducible refine (CT.out _).mono ?_); rintro e w' ⟨rfl, rfl⟩)
              refine hK.out _ _ (by (try dsimp only); (first | assumption | exact ⟨by assumption, by assumption, by assumption⟩ | go_keep)) (fun hHeld => ?_)
              clear hK K
              (try simp only [List.getElem_toArray, List.getElem_cons_succ, List.getElem_cons_zero, Act.put, List.setIfInBounds_toArray, List.set_cons_zero, List.set_cons_succ])
              refine wpAnyH_ready (rs := [29, 32]) (by kernel_rfl) (by simp) ?_
              refine AllReadyH.cons rfl (fun K hK => ?_) (AllReadyH.cons rfl (fun K hK => ?_) (AllReadyH.nil))
              · go_simp
                refine hK.out _ _ (by (try dsimp only); (first | assumption | exact ⟨by assumption, by assumption, by assumption⟩ | go_keep)) (fun hHeld => ?_)
                clear hK K
                (try simp only [List.getElem_toArray, List.getElem_cons_succ, List.getElem_cons_zero, Act.put, List.setIfInBounds_toArray, List.set_cons_zero, List.set_cons_succ])
                refine wpAnyH_ready (rs := [30, 32]) (by kernel_rfl) (by simp) ?_
                refine AllReadyH.cons rfl (fun K hK => ?_) (AllReadyH.cons rfl (fun K hK => ?_) (AllReadyH.nil))
                · go_simp
                  refine hK.out _ _ (by (try dsimp only); (first | assumption | exact ⟨by assumption, by assumption, by assumption⟩ | go_keep)) (fun hHeld => ?_)
                  clear hK K
                  (try simp only [List.getElem_toArray, List.getElem_cons_succ, List.getElem_cons_zero, Act.put, List.setIfInBounds_toArray, List.set_cons_zero, List.set_cons_succ])
                  refine wpAnyH_ready (rs := [32]) (by kernel_rfl) (by simp) ?_
                  refine AllReadyH.cons rfl (fun K hK => ?_) AllReadyH.nil
                  go_simp
                  (go_at_call 61; ((with_reducible refine (pick_any g _ (f + 2 * gq) 4 _ (by first | with_reducible assumption | exact Rdr.alloc (by with_reducible assumption) _ | exact Rdr.drew (Rdr.alloc (by with_reducible assumption) _)) (by omega)).mono ?_); intro e w4 hp; obtain ⟨v, rfl, hv0, hv1, hg1, hr1⟩ := picked_lt (by omega) hp; clear hp; have U2 := QSt.pick (by first | with_reducible assumption | exact QSt.alloc (by with_reducible assumption) _ | exact QSt.drewN (QSt.alloc (by with_reducible assumption) _) 1) hg1 hr1 hgw; have hg5 := undrawn hg1; have G4 := (show wr.grownBy w4 (some g) by first | exact grownBy_trans hgx hg5 | exact grownBy_trans hgx (grownBy_trans (below_grown (below_one _ _)) hg5)); obtain ⟨z0, z1, z2⟩ := HC.out _ G4; have U2l := U2.rdr.lt; obtain ⟨j, rfl⟩ := Int.eq_ofNat_of_zero_le hv0; have hj4 : j < 4 := (by omega); (first | (with_reducible have hq := selQ_new hg5 (by assumption) hj4) | (have hsel1 := selQ_get j hj4; have hsel2 := selQ_get' j hj4)); clear hg1 hg5))
                  refine hK.out _ _ (by (try dsimp only); (first | assumption | exact ⟨by assumption, by assumption, by assumption⟩ | go_keep)) (fun hHeld => ?_)
                  clear hK K
                  (try simp only [List.getElem_toArray, List.getElem_cons_succ, List.getElem_cons_zero, Act.put, List.setIfInBounds_toArray, List.set_cons_zero, List.set_cons_succ])
                  refine wpAnyH_take (i := 33) (v := ?_) rfl (by kernel_rfl) (by kernel_rfl) (by kernel_rfl) (fun _ _ _ h => h) (Or.inl ⟨by rfl, ?_⟩) (by assumption) ?_
                  rotate_left
                  · intro w' hSw; (try dsimp only at hSw); go_simp; try with_reducible rfl
                  (try simp only [List.getElem_toArray, List.getElem_cons_succ, List.getElem_cons_zero, Act.put, List.setIfInBounds_toArray, List.set_cons_zero, List.set_cons_succ])
                  refine wpAnyH_ready (rs := [34]) (by kernel_rfl) (by simp) ?_
                  refine AllReadyH.cons rfl (fun K hK => ?_) AllReadyH.nil
                  go_simp
                  refine hK.out _ _ (by (try dsimp only); (first | assumption | exact ⟨by assumption, by assumption, by assumption⟩ | go_keep)) (fun hHeld => ?_)
                  clear hK K
                  (try simp only [List.getElem_toArray, List.getElem_cons_succ, List.getElem_cons_zero, Act.put, List.setIfInBounds_toArray, List.set_cons_zero, List.set_cons_succ])
                  refine wpAnyH_take (i := 35) (v := ?_) rfl (by kernel_rfl) (by kernel_rfl) (by kernel_rfl) (fun _ _ _ h => h) (Or.inl ⟨by rfl, ?_⟩) (by assumption) ?_
                  rotate_left
                  · intro w' hSw; (try dsimp only at hSw); go_simp; try with_reducible rfl
                  (try simp only [List.getElem_toArray, List.getElem_cons_succ, List.getElem_cons_zero, Act.put, List.setIfInBounds_toArray, List.set_cons_zero, List.set_cons_succ])
                  refine wpAnyH_done (by kernel_rfl) ?_ _
                  go_wp2
                  go_meet
                  first
                    | exact ⟨_, rfl, G4, U2⟩
                    | exact ⟨_, rfl, grownBy_trans G4 (below_grown (below_one _ _)), U2.alloc _⟩
                · go_simp
                  (go_at_call 61; ((with_reducible refine (pick_any g _ (f + 2 * gq) 4 _ (by first | with_reducible assumption | exact Rdr.alloc (by with_reducible assumption) _ | exact Rdr.drew (Rdr.alloc (by with_reducible assumption) _)) (by omega)).mono ?_); intro e w4 hp; obtain ⟨v, rfl, hv0, hv1, hg1, hr1⟩ := picked_lt (by omega) hp; clear hp; have U2 := QSt.pick (by first | with_reducible assumption | exact QSt.alloc (by with_reducible assumption) _ | exact QSt.drewN (QSt.alloc (by with_reducible assumption) _) 1) hg1 hr1 hgw; have hg5 := undrawn hg1; have G4 := (show wr.grownBy w4 (some g) by first | exact grownBy_trans hgx hg5 | exact grownBy_trans hgx (grownBy_trans (below_grown (below_one _ _)) hg5)); obtain ⟨z0, z1, z2⟩ := HC.out _ G4; have U2l := U2.rdr.lt; obtain ⟨j, rfl⟩ := Int.eq_ofNat_of_zero_le hv0; have hj4 : j < 4 := (by omega); (first | (with_reducible have hq := selQ_new hg5 (by assumption) hj4) | (have hsel1 := selQ_get j hj4; have hsel2 := selQ_get' j hj4)); clear hg1 hg5))
                  refine hK.out _ _ (by (try dsimp only); (first | assumption | exact ⟨by assumption, by assumption, by assumption⟩ | go_keep)) (fun hHeld => ?_)
                  clear hK K
                  (try simp only [List.getElem_toArray, List.getElem_cons_succ, List.getElem_cons_zero, Act.put, List.setIfInBounds_toArray, List.set_cons_zero, List.set_cons_succ])
                  refine wpAnyH_ready (rs := [30]) (by kernel_rfl) (by simp) ?_
                  refine AllReadyH.cons rfl (fun K hK => ?_) AllReadyH.nil
                  go_simp
                  refine hK.out _ _ (by (try dsimp only); (first | assumption | exact ⟨by assumption, by assumption, by assumption⟩ | go_keep)) (fun hHeld => ?_)
                  clear hK K
                  (try simp only [List.getElem_toArray, List.getElem_cons_succ, List.getElem_cons_zero, Act.put, List.setIfInBounds_toArray, List.set_cons_zero, List.set_cons_succ])
                  refine wpAnyH_take (i := 33) (v := ?_) rfl (by kernel_rfl) (by kernel_rfl) (by kernel_rfl) (fun _ _ _ h => h) (Or.inl ⟨by rfl, ?_⟩) (by assumption) ?_
                  rotate_left
                  · intro w' hSw; (try dsimp only at hSw); go_simp; try with_reducible rfl
                  (try simp only [List.getElem_toArray, List.getElem_cons_succ, List.getElem_cons_zero, Act.put, List.setIfInBounds_toArray, List.set_cons_zero, List.set_cons_succ])
                  refine wpAnyH_ready (rs := [34]) (by kernel_rfl) (by simp) ?_
                  refine AllReadyH.cons rfl (fun K hK => ?_) AllReadyH.nil
                  go_simp
                  refine hK.out _ _ (by (try dsimp only); (first | assumption | exact ⟨by assumption, by assumption, by assumption⟩ | go_keep)) (fun hHeld => ?_)
                  clear hK K
                  (try simp only [List.getElem_toArray, List.getElem_cons_succ, List.getElem_cons_zero, Act.put, List.setIfInBounds_toArray, List.set_cons_zero, List.set_cons_succ])
                  refine wpAnyH_take (i := 35) (v := ?_) rfl (by kernel_rfl) (by kernel_rfl) (by kernel_rfl) (fun _ _ _ h => h) (Or.inl ⟨by rfl, ?_⟩) (by assumption) ?_
                  rotate_left
                  · intro w' hSw; (try dsimp only at hSw); go_simp; try with_reducible rfl
                  (try simp only [List.getElem_toArray, List.getElem_cons_succ, List.getElem_cons_zero, Act.put, List.setIfInBounds_toArray, List.set_cons_zero, List.set_cons_succ])
                  refine wpAnyH_done (by kernel_rfl) ?_ _
                  go_wp2
                  go_meet
                  first
                    | exact ⟨_, rfl, G4, U2⟩
                    | exact ⟨_, rfl, grownBy_trans G4 (below_grown (below_one _ _)), U2.alloc _⟩
              · go_simp
                (go_at_call 61; ((with_reducible refine (pick_any g _ (f + 2 * gq) 4 _ (by first | with_reducible assumption | exact Rdr.alloc (by with_reducible assumption) _ | exact Rdr.drew (Rdr.alloc (by with_reducible assumption) _)) (by omega)).mono ?_); intro e w4 hp; obtain ⟨v, rfl, hv0, hv1, hg1, hr1⟩ := picked_lt (by omega) hp; clear hp; have U2 := QSt.pick (by first | with_reducible assumption | exact QSt.alloc (by with_reducible assumption) _ | exact QSt.drewN (QSt.alloc (by with_reducible assumption) _) 1) hg1 hr1 hgw; have hg5 := undrawn hg1; have G4 := (show wr.grownBy w4 (some g) by first | exact grownBy_trans hgx hg5 | exact grownBy_trans hgx (grownBy_trans (below_grown (below_one _ _)) hg5)); obtain ⟨z0, z1, z2⟩ := HC.out _ G4; have U2l := U2.rdr.lt; obtain ⟨j, rfl⟩ := Int.eq_ofNat_of_zero_le hv0; have hj4 : j < 4 := (by omega); (first | (with_reducible have hq := selQ_new hg5 (by assumption) hj4) | (have hsel1 := selQ_get j hj4; have hsel2 := selQ_get' j hj4)); clear hg1 hg5))
                refine hK.out _ _ (by (try dsimp only); (first | assumption | exact ⟨by assumption, by assumption, by assumption⟩ | go_keep)) (fun hHeld => ?_)
                clear hK K
                (try simp only [List.getElem_toArray, List.getElem_cons_succ, List.getElem_cons_zero, Act.put, List.setIfInBounds_toArray, List.set_cons_zero, List.set_cons_succ])
                refine wpAnyH_ready (rs := [29]) (by kernel_rfl) (by simp) ?_
                refine AllReadyH.cons rfl (fun K hK => ?_) AllReadyH.nil
                go_simp
                refine hK.out _ _ (by (try dsimp only); (first | assumption | exact ⟨by assumption, by assumption, by assumption⟩ | go_keep)) (fun hHeld => ?_)
                clear hK K
                (try simp only [List.getElem_toArray, List.getElem_cons_succ, List.getElem_cons_zero, Act.put, List.setIfInBounds_toArray, List.set_cons_zero, List.set_cons_succ])
                refine wpAnyH_ready (rs := [30]) (by kernel_rfl) (by simp) ?_
                refine AllReadyH.cons rfl (fun K hK => ?_) AllReadyH.nil
                go_simp
                refine hK.out _ _ (by (try dsimp only); (first | assumption | exact ⟨by assumption, by assumption, by assumption⟩ | go_keep)) (fun hHeld => ?_)
                clear hK K
                (try simp only [List.getElem_toArray, List.getElem_cons_succ, List.getElem_cons_zero, Act.put, List.setIfInBounds_toArray, List.set_cons_zero, List.set_cons_succ])
                refine wpAnyH_take (i := 33) (v := ?_) rfl (by kernel_rfl) (by kernel_rfl) (by kernel_rfl) (fun _ _ _ h => h) (Or.inl ⟨by rfl, ?_⟩) (by assumption) ?_
                rotate_left
                · intro w' hSw; (try dsimp only at hSw); go_simp; try with_reducible rfl
                (try simp only [List.getElem_toArray, List.getElem_cons_succ, List.getElem_cons_zero, Act.put, List.setIfInBounds_toArray, List.set_cons_zero, List.set_cons_succ])
                refine wpAnyH_ready (rs := [34]) (by kernel_rfl) (by simp) ?_
                refine AllReadyH.cons rfl (fun K hK => ?_) AllReadyH.nil
                go_simp
                refine hK.out _ _ (by (try dsimp only); (first | assumption | exact ⟨by assumption, by assumption, by assumption⟩ | go_keep)) (fun hHeld => ?_)
                clear hK K
                (try simp only [List.getElem_toArray, List.getElem_cons_succ, List.getElem_cons_zero, Act.put, List.setIfInBounds_toArray, List.set_cons_zero, List.set_cons_succ])
                refine wpAnyH_take (i := 35) (v := ?_) rfl (by kernel_rfl) (by kernel_rfl) (by kernel_rfl) (fun _ _ _ h => h) (Or.inl ⟨by rfl, ?_⟩) (by assumption) ?_
                rotate_left
                · intro w' hSw; (try dsimp only at hSw); go_simp; try with_reducible rfl
                (try simp only [List.getElem_toArray, List.getElem_cons_succ, List.getElem_cons_zero, Act.put, List.setIfInBounds_toArray, List.set_cons_zero, List.set_cons_succ])
                refine wpAnyH_done (by kernel_rfl) ?_ _
                go_wp2
                go_meet
                first
                  | exact ⟨_, rfl, G4, U2⟩
                  | exact ⟨_, rfl, grownBy_trans G4 (below_grown (below_one _ _)), U2.alloc _⟩
            · go_simp
              (go_at_call 65; (with_reducible refine (CT.out _).mono ?_); rintro e w' ⟨rfl, rfl⟩)
              refine hK.out _ _ (by (try dsimp only); (first | assumption | exact ⟨by assumption, by assumption, by assumption⟩ | go_keep)) (fun hHeld => ?_)
              clear hK K
              (try simp only [List.getElem_toArray, List.getElem_cons_succ, List.getElem_cons_zero, Act.put, List.setIfInBounds_toArray, List.set_cons_zero, List.set_cons_succ])
              refine wpAnyH_ready (rs := [16, 29, 32]) (by kernel_rfl) (by simp) ?_
              refine AllReadyH.cons rfl (fun K hK => ?_) (AllReadyH.cons rfl (fun K hK => ?_) (AllReadyH.cons rfl (fun K hK => ?_) (AllReadyH.nil)))
              · go_simp
                refine hK.out _ _ (by (try dsimp only); (first | assumption | exact ⟨by assumption, by assumption, by assumption⟩ | go_keep)) (fun hHeld => ?_)
                clear hK K
                (try simp only [List.getElem_toArray, List.getElem_cons_succ, List.getElem_cons_zero, Act.put, List.setIfInBounds_toArray, List.set_cons_zero, List.set_cons_succ])
                refine wpAnyH_ready (rs := [29, 32]) (by kernel_rfl) (by simp) ?_
                refine AllReadyH.cons rfl (fun K hK => ?_) (AllReadyH.cons rfl (fun K hK => ?_) (AllReadyH.nil))
                · go_simp
                  refine hK.out _ _ (by (try dsimp only); (first | assumption | exact ⟨by assumption, by assumption, by assumption⟩ | go_keep)) (fun hHeld => ?_)
                  clear hK K
                  (try simp only [List.getElem_toArray, List.getElem_cons_succ, List.getElem_cons_zero, Act.put, List.setIfInBounds_toArray, List.set_cons_zero, List.set_cons_succ])
                  refine wpAnyH_ready (rs := [30, 32]) (by kernel_rfl) (by simp) ?_
                  refine AllReadyH.cons rfl (fun K hK => ?_) (AllReadyH.cons rfl (fun K hK => ?_) (AllReadyH.nil))
                  · go_simp
                    refine hK.out _ _ (by (try dsimp only); (first | assumption | exact ⟨by assumption, by assumption, by assumption⟩ | go_keep)) (fun hHeld => ?_)
                    clear hK K
                    (try simp only [List.getElem_toArray, List.getElem_cons_succ, List.getElem_cons_zero, Act.put, List.setIfInBounds_toArray, List.set_cons_zero, List.set_cons_succ])
                    refine wpAnyH_ready (rs := [32]) (by kernel_rfl) (by simp) ?_
                    refine AllReadyH.cons rfl (fun K hK => ?_) AllReadyH.nil
                    go_simp
                    (go_at_call 61; ((with_reducible refine (pick_any g _ (f + 2 * gq) 4 _ (by first | with_reducible assumption | exact Rdr.alloc (by with_reducible assumption) _ | exact Rdr.drew (Rdr.alloc (by with_reducible assumption) _)) (by omega)).mono ?_); intro e w4 hp; obtain ⟨v, rfl, hv0, hv1, hg1, hr1⟩ := picked_lt (by omega) hp; clear hp; have U2 := QSt.pick (by first | with_reducible assumption | exact QSt.alloc (by with_reducible assumption) _ | exact QSt.drewN (QSt.alloc (by with_reducible assumption) _) 1) hg1 hr1 hgw; have hg5 := undrawn hg1; have G4 := (show wr.grownBy w4 (some g) by first | exact grownBy_trans hgx hg5 | exact grownBy_trans hgx (grownBy_trans (below_grown (below_one _ _)) hg5)); obtain ⟨z0, z1, z2⟩ := HC.out _ G4; have U2l := U2.rdr.lt; obtain ⟨j, rfl⟩ := Int.eq_ofNat_of_zero_le hv0; have hj4 : j < 4 := (by omega); (first | (with_reducible have hq := selQ_new hg5 (by assumption) hj4) | (have hsel1 := selQ_get j hj4; have hsel2 := selQ_get' j hj4)); clear hg1 hg5))
                    refine hK.out _ _ (by (try dsimp only); (first | assumption | exact ⟨by assumption, by assumption, by assumption⟩ | go_keep)) (fun hHeld => ?_)
                    clear hK K
                    (try simp only [List.getElem_toArray, List.getElem_cons_succ, List.getElem_cons_zero, Act.put, List.setIfInBounds_toArray, List.set_cons_zero, List.set_cons_succ])
                    refine wpAnyH_take (i := 33) (v := ?_) rfl (by kernel_rfl) (by kernel_rfl) (by kernel_rfl) (fun _ _ _ h => h) (Or.inl ⟨by rfl, ?_⟩) (by assumption) ?_
                    rotate_left
                    · intro w' hSw; (try dsimp only at hSw); go_simp; try with_reducible rfl
                    (try simp only [List.getElem_toArray, List.getElem_cons_succ, List.getElem_cons_zero, Act.put, List.setIfInBounds_toArray, List.set_cons_zero, List.set_cons_succ])
                    refine wpAnyH_ready (rs := [34]) (by kernel_rfl) (by simp) ?_
                    refine AllReadyH.cons rfl (fun K hK => ?_) AllReadyH.nil
                    go_simp
                    refine hK.out _ _ (by (try dsimp only); (first | assumption | exact ⟨by assumption, by assumption, by assumption⟩ | go_keep)) (fun hHeld => ?_)
                    clear hK K
                    (try simp only [List.getElem_toArray, List.getElem_cons_succ, List.getElem_cons_zero, Act.put, List.setIfInBounds_toArray, List.set_cons_zero, List.set_cons_succ])
                    refine wpAnyH_take (i := 35) (v := ?_) rfl (by kernel_rfl) (by kernel_rfl) (by kernel_rfl) (fun _ _ _ h => h) (Or.inl ⟨by rfl, ?_⟩) (by assumption) ?_
                    rotate_left
                    · intro w' hSw; (try dsimp only at hSw); go_simp; try with_reducible rfl
                    (try simp only [List.getElem_toArray, List.getElem_cons_succ, List.getElem_cons_zero, Act.put, List.setIfInBounds_toArray, List.set_cons_zero, List.set_cons_succ])
                    refine wpAnyH_done (by kernel_rfl) ?_ _
                    go_wp2
                    go_meet
                    first
                      | exact ⟨_, rfl, G4, U2⟩
                      | exact ⟨_, rfl, grownBy_trans G4 (below_grown (below_one _ _)), U2.alloc _⟩
                  · go_simp
                    (go_at_call 61; ((with_reducible refine (pick_any g _ (f + 2 * gq) 4 _ (by first | with_reducible assumption | exact Rdr.alloc (by with_reducible assumption) _ | exact Rdr.drew (Rdr.alloc (by with_reducible assumption) _)) (by omega)).mono ?_); intro e w4 hp; obtain ⟨v, rfl, hv0, hv1, hg1, hr1⟩ := picked_lt (by omega) hp; clear hp; have U2 := QSt.pick (by first | with_reducible assumption | exact QSt.alloc (by with_reducible assumption) _ | exact QSt.drewN (QSt.alloc (by with_reducible assumption) _) 1) hg1 hr1 hgw; have hg5 := undrawn hg1; have G4 := (show wr.grownBy w4 (some g) by first | exact grownBy_trans hgx hg5 | exact grownBy_trans hgx (grownBy_trans (below_grown (below_one _ _)) hg5)); obtain ⟨z0, z1, z2⟩ := HC.out _ G4; have U2l := U2.rdr.lt; obtain ⟨j, rfl⟩ := Int.eq_ofNat_of_zero_le hv0; have hj4 : j < 4 := (by omega); (first | (with_reducible have hq := selQ_new hg5 (by assumption) hj4) | (have hsel1 := selQ_get j hj4; have hsel2 := selQ_get' j hj4)); clear hg1 hg5))
                    refine hK.out _ _ (by (try dsimp only); (first | assumption | exact ⟨by assumption, by assumption, by assumption⟩ | go_keep)) (fun hHeld => ?_)
                    clear hK K
                    (try simp only [List.getElem_toArray, List.getElem_cons_succ, List.getElem_cons_zero, Act.put, List.setIfInBounds_toArray, List.set_cons_zero, List.set_cons_succ])
                    refine wpAnyH_ready (rs := [30]) (by kernel_rfl) (by simp) ?_
                    refine AllReadyH.cons rfl (fun K hK => ?_) AllReadyH.nil
                    go_simp
                    refine hK.out _ _ (by (try dsimp only); (first | assumption | exact ⟨by assumption, by assumption, by assumption⟩ | go_keep)) (fun hHeld => ?_)
                    clear hK K
                    (try simp only [List.getElem_toArray, List.getElem_cons_succ, List.getElem_cons_zero, Act.put, List.setIfInBounds_toArray, List.set_cons_zero, List.set_cons_succ])
                    refine wpAnyH_take (i := 33) (v := ?_) rfl (by kernel_rfl) (by kernel_rfl) (by kernel_rfl) (fun _ _ _ h => h) (Or.inl ⟨by rfl, ?_⟩) (by assumption) ?_
                    rotate_left
                    · intro w' hSw; (try dsimp only at hSw); go_simp; try with_reducible rfl
                    (try simp only [List.getElem_toArray, List.getElem_cons_succ, List.getElem_cons_zero, Act.put, List.setIfInBounds_toArray, List.set_cons_zero, List.set_cons_succ])
                    refine wpAnyH_ready (rs := [34]) (by kernel_rfl) (by simp) ?_
                    refine AllReadyH.cons rfl (fun K hK => ?_) AllReadyH.nil
                    go_simp
                    refine hK.out _ _ (by (try dsimp only); (first | assumption | exact ⟨by assumption, by assumption, by assumption⟩ | go_keep)) (fun hHeld => ?_)
                    clear hK K
                    (try simp only [List.getElem_toArray, List.getElem_cons_succ, List.getElem_cons_zero, Act.put, List.setIfInBounds_toArray, List.set_cons_zero, List.set_cons_succ])
                    refine wpAnyH_take (i := 35) (v := ?_) rfl (by kernel_rfl) (by kernel_rfl) (by kernel_rfl) (fun _ _ _ h => h) (Or.inl ⟨by rfl, ?_⟩) (by assumption) ?_
                    rotate_left
                    · intro w' hSw; (try dsimp only at hSw); go_simp; try with_reducible rfl
                    (try simp only [List.getElem_toArray, List.getElem_cons_succ, List.getElem_cons_zero, Act.put, List.setIfInBounds_toArray, List.set_cons_zero, List.set_cons_succ])
                    refine wpAnyH_done (by kernel_rfl) ?_ _
                    go_wp2
                    go_meet
                    first
                      | exact ⟨_, rfl, G4, U2⟩
                      | exact ⟨_, rfl, grownBy_trans G4 (below_grown (below_one _ _)), U2.alloc _⟩
                · go_simp
                  (go_at_call 61; ((with_reducible refine (pick_any g _ (f + 2 * gq) 4 _ (by first | with_reducible assumption | exact Rdr.alloc (by with_reducible assumption) _ | exact Rdr.drew (Rdr.alloc (by with_reducible assumption) _)) (by omega)).mono ?_); intro e w4 hp; obtain ⟨v, rfl, hv0, hv1, hg1, hr1⟩ := picked_lt (by omega) hp; clear hp; have U2 := QSt.pick (by first | with_reducible assumption | exact QSt.alloc (by with_reducible assumption) _ | exact QSt.drewN (QSt.alloc (by with_reducible assumption) _) 1) hg1 hr1 hgw; have hg5 := undrawn hg1; have G4 := (show wr.grownBy w4 (some g) by first | exact grownBy_trans hgx hg5 | exact grownBy_trans hgx (grownBy_trans (below_grown (below_one _ _)) hg5)); obtain ⟨z0, z1, z2⟩ := HC.out _ G4; have U2l := U2.rdr.lt; obtain ⟨j, rfl⟩ := Int.eq_ofNat_of_zero_le hv0; have hj4 : j < 4 := (by omega); (first | (with_reducible have hq := selQ_new hg5 (by assumption) hj4) | (have hsel1 := selQ_get j hj4; have hsel2 := selQ_get' j hj4)); clear hg1 hg5))
                  refine hK.out _ _ (by (try dsimp only); (first | assumption | exact ⟨by assumption, by assumption, by assumption⟩ | go_keep)) (fun hHeld => ?_)
                  clear hK K
                  (try simp only [List.getElem_toArray, List.getElem_cons_succ, List.getElem_cons_zero, Act.put, List.setIfInBounds_toArray, List.set_cons_zero, List.set_cons_succ])
                  refine wpAnyH_ready (rs := [29]) (by kernel_rfl) (by simp) ?_
                  refine AllReadyH.cons rfl (fun K hK => ?_) AllReadyH.nil
                  go_simp
                  refine hK.out _ _ (by (try dsimp only); (first | assumption | exact ⟨by assumption, by assumption, by assumption⟩ | go_keep)) (fun hHeld => ?_)
                  clear hK K
                  (try simp only [List.getElem_toArray, List.getElem_cons_succ, List.getElem_cons_zero, Act.put, List.setIfInBounds_toArray, List.set_cons_zero, List.set_cons_succ])
                  refine wpAnyH_ready (rs := [30]) (by kernel_rfl) (by simp) ?_
                  refine AllReadyH.cons rfl (fun K hK => ?_) AllReadyH.nil
                  go_simp
                  refine hK.out _ _ (by (try dsimp only); (first | assumption | exact ⟨by assumption, by assumption, by assumption⟩ | go_keep)) (fun hHeld => ?_)
                  clear hK K
                  (try simp only [List.getElem_toArray, List.getElem_cons_succ, List.getElem_cons_zero, Act.put, List.setIfInBounds_toArray, List.set_cons_zero, List.set_cons_succ])
                  refine wpAnyH_take (i := 33) (v := ?_) rfl (by kernel_rfl) (by kernel_rfl) (by kernel_rfl) (fun _ _ _ h => h) (Or.inl ⟨by rfl, ?_⟩) (by assumption) ?_
                  rotate_left
                  · intro w' hSw; (try dsimp only at hSw); go_simp; try with_reducible rfl
                  (try simp only [List.getElem_toArray, List.getElem_cons_succ, List.getElem_cons_zero, Act.put, List.setIfInBounds_toArray, List.set_cons_zero, List.set_cons_succ])
                  refine wpAnyH_ready (rs := [34]) (by kernel_rfl) (by simp) ?_
                  refine AllReadyH.cons rfl (fun K hK => ?_) AllReadyH.nil
                  go_simp
                  refine hK.out _ _ (by (try dsimp only); (first | assumption | exact ⟨by assumption, by assumption, by assumption⟩ | go_keep)) (fun hHeld => ?_)
                  clear hK K
                  (try simp only [List.getElem_toArray, List.getElem_cons_succ, List.getElem_cons_zero, Act.put, List.setIfInBounds_toArray, List.set_cons_zero, List.set_cons_succ])
                  refine wpAnyH_take (i := 35) (v := ?_) rfl (by kernel_rfl) (by kernel_rfl) (by kernel_rfl) (fun _ _ _ h => h) (Or.inl ⟨by rfl, ?_⟩) (by assumption) ?_
                  rotate_left
                  · intro w' hSw; (try dsimp only at hSw); go_simp; try with_reducible rfl
                  (try simp only [List.getElem_toArray, List.getElem_cons_succ, List.getElem_cons_zero, Act.put, List.setIfInBounds_toArray, List.set_cons_zero, List.set_cons_succ])
                  refine wpAnyH_done (by kernel_rfl) ?_ _
                  go_wp2
                  go_meet
                  first
                    | exact ⟨_, rfl, G4, U2⟩
                    | exact ⟨_, rfl, grownBy_trans G4 (below_grown (below_one _ _)), U2.alloc _⟩
              · go_simp
                refine hK.out _ _ (by (try dsimp only); (first | assumption | exact ⟨by assumption, by assumption, by assumption⟩ | go_keep)) (fun hHeld => ?_)
                clear hK K
                (try simp only [List.getElem_toArray, List.getElem_cons_succ, List.getElem_cons_zero, Act.put, List.setIfInBounds_toArray, List.set_cons_zero, List.set_cons_succ])
                refine wpAnyH_ready (rs := [16, 32]) (by kernel_rfl) (by simp) ?_
                refine AllReadyH.cons rfl (fun K hK => ?_) (AllReadyH.cons rfl (fun K hK => ?_) (AllReadyH.nil))
                · go_simp
                  refine hK.out _ _ (by (try dsimp only); (first | assumption | exact ⟨by assumption, by assumption, by assumption⟩ | go_keep)) (fun hHeld => ?_)
                  clear hK K
                  (try simp only [List.getElem_toArray, List.getElem_cons_succ, List.getElem_cons_zero, Act.put, List.setIfInBounds_toArray, List.set_cons_zero, List.set_cons_succ])
                  refine wpAnyH_ready (rs := [30, 32]) (by kernel_rfl) (by simp) ?_
                  refine AllReadyH.cons rfl (fun K hK => ?_) (AllReadyH.cons rfl (fun K hK => ?_) (AllReadyH.nil))
                  · go_simp
                    refine hK.out _ _ (by (try dsimp only); (first | assumption | exact ⟨by assumption, by assumption, by assumption⟩ | go_keep)) (fun hHeld => ?_)
                    clear hK K
                    (try simp only [List.getElem_toArray, List.getElem_cons_succ, List.getElem_cons_zero, Act.put, List.setIfInBounds_toArray, List.set_cons_zero, List.set_cons_succ])
                    refine wpAnyH_ready (rs := [32]) (by kernel_rfl) (by simp) ?_
                    refine AllReadyH.cons rfl (fun K hK => ?_) AllReadyH.nil
                    go_simp
                    (go_at_call 61; ((with_reducible refine (pick_any g _ (f + 2 * gq) 4 _ (by first | with_reducible assumption | exact Rdr.alloc (by with_reducible assumption) _ | exact Rdr.drew (Rdr.alloc (by with_reducible assumption) _)) (by omega)).mono ?_); intro e w4 hp; obtain ⟨v, rfl, hv0, hv1, hg1, hr1⟩ := picked_lt (by omega) hp; clear hp; have U2 := QSt.pick (by first | with_reducible assumption | exact QSt.alloc (by with_reducible assumption) _ | exact QSt.drewN (QSt.alloc (by with_reducible assumption) _) 1) hg1 hr1 hgw; have hg5 := undrawn hg1; have G4 := (show wr.grownBy w4 (some g) by first | exact grownBy_trans hgx hg5 | exact grownBy_trans hgx (grownBy_trans (below_grown (below_one _ _)) hg5)); obtain ⟨z0, z1, z2⟩ := HC.out _ G4; have U2l := U2.rdr.lt; obtain ⟨j, rfl⟩ := Int.eq_ofNat_of_zero_le hv0; have hj4 : j < 4 := (by omega); (first | (with_reducible have hq := selQ_new hg5 (by assumption) hj4) | (have hsel1 := selQ_get j hj4; have hsel2 := selQ_get' j hj4)); clear hg1 hg5))
                    refine hK.out _ _ (by (try dsimp only); (first | assumption | exact ⟨by assumption, by assumption, by assumption⟩ | go_keep)) (fun hHeld => ?_)
                    clear hK K
                    (try simp only [List.getElem_toArray, List.getElem_cons_succ, List.getElem_cons_zero, Act.put, List.setIfInBounds_toArray, List.set_cons_zero, List.set_cons_succ])
                    refine wpAnyH_take (i := 33) (v := ?_) rfl (by kernel_rfl) (by kernel_rfl) (by kernel_rfl) (fun _ _ _ h => h) (Or.inl ⟨by rfl, ?_⟩) (by assumption) ?_
                    rotate_left
                    · intro w' hSw; (try dsimp only at hSw); go_simp; try with_reducible rfl
                    (try simp only [List.getElem_toArray, List.getElem_cons_succ, List.getElem_cons_zero, Act.put, List.setIfInBounds_toArray, List.set_cons_zero, List.set_cons_succ])
                    refine wpAnyH_ready (rs := [34]) (by kernel_rfl) (by simp) ?_
                    refine AllReadyH.cons rfl (fun K hK => ?_) AllReadyH.nil
                    go_simp
                    refine hK.out _ _ (by (try dsimp only); (first | assumption | exact ⟨by assumption, by assumption, by assumption⟩ | go_keep)) (fun hHeld => ?_)
                    clear hK K
                    (try simp only [List.getElem_toArray, List.getElem_cons_succ, List.getElem_cons_zero, Act.put, List.setIfInBounds_toArray, List.set_cons_zero, List.set_cons_succ])
                    refine wpAnyH_take (i := 35) (v := ?_) rfl (by kernel_rfl) (by kernel_rfl) (by kernel_rfl) (fun _ _ _ h => h) (Or.inl ⟨by rfl, ?_⟩) (by assumption) ?_
                    rotate_left
                    · intro w' hSw; (try dsimp only at hSw); go_simp; try with_reducible rfl
                    (try simp only [List.getElem_toArray, List.getElem_cons_succ, List.getElem_cons_zero, Act.put, List.setIfInBounds_toArray, List.set_cons_zero, List.set_cons_succ])
                    refine wpAnyH_done (by kernel_rfl) ?_ _
                    go_wp2
                    go_meet
                    first
                      | exact ⟨_, rfl, G4, U2⟩
                      | exact ⟨_, rfl, grownBy_trans G4 (below_grown (below_one _ _)), U2.alloc _⟩
                  · go_simp
                    (go_at_call 61; ((with_reducible refine (pick_any g _ (f + 2 * gq) 4 _ (by first | with_reducible assumption | exact Rdr.alloc (by with_reducible assumption) _ | exact Rdr.drew (Rdr.alloc (by with_reducible assumption) _)) (by omega)).mono ?_); intro e w4 hp; obtain ⟨v, rfl, hv0, hv1, hg1, hr1⟩ := picked_lt (by omega) hp; clear hp; have U2 := QSt.pick (by first | with_reducible assumption | exact QSt.alloc (by with_reducible assumption) _ | exact QSt.drewN (QSt.alloc (by with_reducible assumption) _) 1) hg1 hr1 hgw; have hg5 := undrawn hg1; have G4 := (show wr.grownBy w4 (some g) by first | exact grownBy_trans hgx hg5 | exact grownBy_trans hgx (grownBy_trans (below_grown (below_one _ _)) hg5)); obtain ⟨z0, z1, z2⟩ := HC.out _ G4; have U2l := U2.rdr.lt; obtain ⟨j, rfl⟩ := Int.eq_ofNat_of_zero_le hv0; have hj4 : j < 4 := (by omega); (first | (with_reducible have hq := selQ_new hg5 (by assumption) hj4) | (have hsel1 := selQ_get j hj4; have hsel2 := selQ_get' j hj4)); clear hg1 hg5))
                    refine hK.out _ _ (by (try dsimp only); (first | assumption | exact ⟨by assumption, by assumption, by assumption⟩ | go_keep)) (fun hHeld => ?_)
                    clear hK K
                    (try simp only [List.getElem_toArray, List.getElem_cons_succ, List.getElem_cons_zero, Act.put, List.setIfInBounds_toArray, List.set_cons_zero, List.set_cons_succ])
                    refine wpAnyH_ready (rs := [30]) (by kernel_rfl) (by simp) ?_
                    refine AllReadyH.cons rfl (fun K hK => ?_) AllReadyH.nil
                    go_simp
                    refine hK.out _ _ (by (try dsimp only); (first | assumption | exact ⟨by assumption, by assumption, by assumption⟩ | go_keep)) (fun hHeld => ?_)
                    clear hK K
                    (try simp only [List.getElem_toArray, List.getElem_cons_succ, List.getElem_cons_zero, Act.put, List.setIfInBounds_toArray, List.set_cons_zero, List.set_cons_succ])
                    refine wpAnyH_take (i := 33) (v := ?_) rfl (by kernel_rfl) (by kernel_rfl) (by kernel_rfl) (fun _ _ _ h => h) (Or.inl ⟨by rfl, ?_⟩) (by assumption) ?_
                    rotate_left
                    · intro w' hSw; (try dsimp only at hSw); go_simp; try with_reducible rfl
                    (try simp only [List.getElem_toArray, List.getElem_cons_succ, List.getElem_cons_zero, Act.put, List.setIfInBounds_toArray, List.set_cons_zero, List.set_cons_succ])
                    refine wpAnyH_ready (rs := [34]) (by kernel_rfl) (by simp) ?_
                    refine AllReadyH.cons rfl (fun K hK => ?_) AllReadyH.nil
                    go_simp
                    refine hK.out _ _ (by (try dsimp only); (first | assumption | exact ⟨by assumption, by assumption, by assumption⟩ | go_keep)) (fun hHeld => ?_)
                    clear hK K
                    (try simp only [List.getElem_toArray, List.getElem_cons_succ, List.getElem_cons_zero, Act.put, List.setIfInBounds_toArray, List.set_cons_zero, List.set_cons_succ])
                    refine wpAnyH_take (i := 35) (v := ?_) rfl (by kernel_rfl) (by kernel_rfl) (by kernel_rfl) (fun _ _ _ h => h) (Or.inl ⟨by rfl, ?_⟩) (by assumption) ?_
                    rotate_left
                    · intro w' hSw; (try dsimp only at hSw); go_simp; try with_reducible rfl
                    (try simp only [List.getElem_toArray, List.getElem_cons_succ, List.getElem_cons_zero, Act.put, List.setIfInBounds_toArray, List.set_cons_zero, List.set_cons_succ])
                    refine wpAnyH_done (by kernel_rfl) ?_ _
                    go_wp2
                    go_meet
                    first
                      | exact ⟨_, rfl, G4, U2⟩
                      | exact ⟨_, rfl, grownBy_trans G4 (below_grown (below_one _ _)), U2.alloc _⟩
                · go_simp
                  (go_at_call 61; ((with_reducible refine (pick_any g _ (f + 2 * gq) 4 _ (by first | with_reducible assumption | exact Rdr.alloc (by with_reducible assumption) _ | exact Rdr.drew (Rdr.alloc (by with_reducible assumption) _)) (by omega)).mono ?_); intro e w4 hp; obtain ⟨v, rfl, hv0, hv1, hg1, hr1⟩ := picked_lt (by omega) hp; clear hp; have U2 := QSt.pick (by first | with_reducible assumption | exact QSt.alloc (by with_reducible assumption) _ | exact QSt.drewN (QSt.alloc (by with_reducible assumption) _) 1) hg1 hr1 hgw; have hg5 := undrawn hg1; have G4 := (show wr.grownBy w4 (some g) by first | exact grownBy_trans hgx hg5 | exact grownBy_trans hgx (grownBy_trans (below_grown (below_one _ _)) hg5)); obtain ⟨z0, z1, z2⟩ := HC.out _ G4; have U2l := U2.rdr.lt; obtain ⟨j, rfl⟩ := Int.eq_ofNat_of_zero_le hv0; have hj4 : j < 4 := (by omega); (first | (with_reducible have hq := selQ_new hg5 (by assumption) hj4) | (have hsel1 := selQ_get j hj4; have hsel2 := selQ_get' j hj4)); clear hg1 hg5))
                  refine hK.out _ _ (by (try dsimp only); (first | assumption | exact ⟨by assumption, by assumption, by assumption⟩ | go_keep)) (fun hHeld => ?_)
                  clear hK K
                  (try simp only [List.getElem_toArray, List.getElem_cons_succ, List.getElem_cons_zero, Act.put, List.setIfInBounds_toArray, List.set_cons_zero, List.set_cons_succ])
                  refine wpAnyH_ready (rs := [16]) (by kernel_rfl) (by simp) ?_
                  refine AllReadyH.cons rfl (fun K hK => ?_) AllReadyH.nil
                  go_simp
                  refine hK.out _ _ (by (try dsimp only); (first | assumption | exact ⟨by assumption, by assumption, by assumption⟩ | go_keep)) (fun hHeld => ?_)
                  clear hK K
                  (try simp only [List.getElem_toArray, List.getElem_cons_succ, List.getElem_cons_zero, Act.put, List.setIfInBounds_toArray, List.set_cons_zero, List.set_cons_succ])
                  refine wpAnyH_ready (rs := [30]) (by kernel_rfl) (by simp) ?_
                  refine AllReadyH.cons rfl (fun K hK => ?_) AllReadyH.nil
                  go_simp
                  refine hK.out _ _ (by (try dsimp only); (first | assumption | exact ⟨by assumption, by assumption, by assumption⟩ | go_keep)) (fun hHeld => ?_)
                  clear hK K
                  (try simp only [List.getElem_toArray, List.getElem_cons_succ, List.getElem_cons_zero, Act.put, List.setIfInBounds_toArray, List.set_cons_zero, List.set_cons_succ])
                  refine wpAnyH_take (i := 33) (v := ?_) rfl (by kernel_rfl) (by kernel_rfl) (by kernel_rfl) (fun _ _ _ h => h) (Or.inl ⟨by rfl, ?_⟩) (by assumption) ?_
                  rotate_left
                  · intro w' hSw; (try dsimp only at hSw); go_simp; try with_reducible rfl
                  (try simp only [List.getElem_toArray, List.getElem_cons_succ, List.getElem_cons_zero, Act.put, List.setIfInBounds_toArray, List.set_cons_zero, List.set_cons_succ])
                  refine wpAnyH_ready (rs := [34]) (by kernel_rfl) (by simp) ?_
                  refine AllReadyH.cons rfl (fun K hK => ?_) AllReadyH.nil
                  go_simp
                  refine hK.out _ _ (by (try dsimp only); (first | assumption | exact ⟨by assumption, by assumption, by assumption⟩ | go_keep)) (fun hHeld => ?_)
                  clear hK K
                  (try simp only [List.getElem_toArray, List.getElem_cons_succ, List.getElem_cons_zero, Act.put, List.setIfInBounds_toArray, List.set_cons_zero, List.set_cons_succ])
                  refine wpAnyH_take (i := 35) (v := ?_) rfl (by kernel_rfl) (by kernel_rfl) (by kernel_rfl) (fun _ _ _ h => h) (Or.inl ⟨by rfl, ?_⟩) (by assumption) ?_
                  rotate_left
                  · intro w' hSw; (try dsimp only at hSw); go_simp; try with_reducible rfl
                  (try simp only [List.getElem_toArray, List.getElem_cons_succ, List.getElem_cons_zero, Act.put, List.setIfInBounds_toArray, List.set_cons_zero, List.set_cons_succ])
                  refine wpAnyH_done (by kernel_rfl) ?_ _
                  go_wp2
                  go_meet
                  first
                    | exact ⟨_, rfl, G4, U2⟩
                    | exact ⟨_, rfl, grownBy_trans G4 (below_grown (below_one _ _)), U2.alloc _⟩
              · go_simp
                (go_at_call 61; ((with_reducible refine (pick_any g _ (f + 2 * gq) 4 _ (by first | with_reducible assumption | exact Rdr.alloc (by with_reducible assumption) _ | exact Rdr.drew (Rdr.alloc (by with_reducible assumption) _)) (by omega)).mono ?_); intro e w4 hp; obtain ⟨v, rfl, hv0, hv1, hg1, hr1⟩ := picked_lt (by omega) hp; clear hp; have U2 := QSt.pick (by first | with_reducible assumption | exact QSt.alloc (by with_reducible assumption) _ | exact QSt.drewN (QSt.alloc (by with_reducible assumption) _) 1) hg1 hr1 hgw; have hg5 := undrawn hg1; have G4 := (show wr.grownBy w4 (some g) by first | exact grownBy_trans hgx hg5 | exact grownBy_trans hgx (grownBy_trans (below_grown (below_one _ _)) hg5)); obtain ⟨z0, z1, z2⟩ := HC.out _ G4; have U2l := U2.rdr.lt; obtain ⟨j, rfl⟩ := Int.eq_ofNat_of_zero_le hv0; have hj4 : j < 4 := (by omega); (first | (with_reducible have hq := selQ_new hg5 (by assumption) hj4) | (have hsel1 := selQ_get j hj4; have hsel2 := selQ_get' j hj4)); clear hg1 hg5))
                refine hK.out _ _ (by (try dsimp only); (first | assumption | exact ⟨by assumption, by assumption, by assumption⟩ | go_keep)) (fun hHeld => ?_)
                clear hK K
                (try simp only [List.getElem_toArray, List.getElem_cons_succ, List.getElem_cons_zero, Act.put, List.setIfInBounds_toArray, List.set_cons_zero, List.set_cons_succ])
                refine wpAnyH_ready (rs := [16, 29]) (by kernel_rfl) (by simp) ?_
                refine AllReadyH.cons rfl (fun K hK => ?_) (AllReadyH.cons rfl (fun K hK => ?_) (AllReadyH.nil))
                · go_simp
                  refine hK.out _ _ (by (try dsimp only); (first | assumption | exact ⟨by assumption, by assumption, by assumption⟩ | go_keep)) (fun hHeld => ?_)
                  clear hK K
                  (try simp only [List.getElem_toArray, List.getElem_cons_succ, List.getElem_cons_zero, Act.put, List.setIfInBounds_toArray, List.set_cons_zero, List.set_cons_succ])
                  refine wpAnyH_ready (rs := [29]) (by kernel_rfl) (by simp) ?_
                  refine AllReadyH.cons rfl (fun K hK => ?_) AllReadyH.nil
                  go_simp
                  refine hK.out _ _ (by (try dsimp only); (first | assumption | exact ⟨by assumption, by assumption, by assumption⟩ | go_keep)) (fun hHeld => ?_)
                  clear hK K
                  (try simp only [List.getElem_toArray, List.getElem_cons_succ, List.getElem_cons_zero, Act.put, List.setIfInBounds_toArray, List.set_cons_zero, List.set_cons_succ])
                  refine wpAnyH_ready (rs := [30]) (by kernel_rfl) (by simp) ?_
                  refine AllReadyH.cons rfl (fun K hK => ?_) AllReadyH.nil
                  go_simp
                  refine hK.out _ _ (by (try dsimp only); (first | assumption | exact ⟨by assumption, by assumption, by assumption⟩ | go_keep)) (fun hHeld => ?_)
                  clear hK K
                  (try simp only [List.getElem_toArray, List.getElem_cons_succ, List.getElem_cons_zero, Act.put, List.setIfInBounds_toArray, List.set_cons_zero, List.set_cons_succ])
                  refine wpAnyH_take (i := 33) (v := ?_) rfl (by kernel_rfl) (by kernel_rfl) (by kernel_rfl) (fun _ _ _ h => h) (Or.inl ⟨by rfl, ?_⟩) (by assumption) ?_
                  rotate_left
                  · intro w' hSw; (try dsimp only at hSw); go_simp; try with_reducible rfl
                  (try simp only [List.getElem_toArray, List.getElem_cons_succ, List.getElem_cons_zero, Act.put, List.setIfInBounds_toArray, List.set_cons_zero, List.set_cons_succ])
                  refine wpAnyH_ready (rs := [34]) (by kernel_rfl) (by simp) ?_
                  refine AllReadyH.cons rfl (fun K hK => ?_) AllReadyH.nil
                  go_simp
                  refine hK.out _ _ (by (try dsimp only); (first | assumption | exact ⟨by assumption, by assumption, by assumption⟩ | go_keep)) (fun hHeld => ?_)
                  clear hK K
                  (try simp only [List.getElem_toArray, List.getElem_cons_succ, List.getElem_cons_zero, Act.put, List.setIfInBounds_toArray, List.set_cons_zero, List.set_cons_succ])
                  refine wpAnyH_take (i := 35) (v := ?_) rfl (by kernel_rfl) (by kernel_rfl) (by kernel_rfl) (fun _ _ _ h => h) (Or.inl ⟨by rfl, ?_⟩) (by assumption) ?_
                  rotate_left
                  · intro w' hSw; (try dsimp only at hSw); go_simp; try with_reducible rfl
                  (try simp only [List.getElem_toArray, List.getElem_cons_succ, List.getElem_cons_zero, Act.put, List.setIfInBounds_toArray, List.set_cons_zero, List.set_cons_succ])
                  refine wpAnyH_done (by kernel_rfl) ?_ _
                  go_wp2
                  go_meet
                  first
                    | exact ⟨_, rfl, G4, U2⟩
                    | exact ⟨_, rfl, grownBy_trans G4 (below_grown (below_one _ _)), U2.alloc _⟩
                · go_simp
                  refine hK.out _ _ (by (try dsimp only); (first | assumption | exact ⟨by assumption, by assumption, by assumption⟩ | go_keep)) (fun hHeld => ?_)
                  clear hK K
                  (try simp only [List.getElem_toArray, List.getElem_cons_succ, List.getElem_cons_zero, Act.put, List.setIfInBounds_toArray, List.set_cons_zero, List.set_cons_succ])
                  refine wpAnyH_ready (rs := [16]) (by kernel_rfl) (by simp) ?_
                  refine AllReadyH.cons rfl (fun K hK => ?_) AllReadyH.nil
                  go_simp
                  refine hK.out _ _ (by (try dsimp only); (first | assumption | exact ⟨by assumption, by assumption, by assumption⟩ | go_keep)) (fun hHeld => ?_)
                  clear hK K
                  (try simp only [List.getElem_toArray, List.getElem_cons_succ, List.getElem_cons_zero, Act.put, List.setIfInBounds_toArray, List.set_cons_zero, List.set_cons_succ])
                  refine wpAnyH_ready (rs := [30]) (by kernel_rfl) (by simp) ?_
                  refine AllReadyH.cons rfl (fun K hK => ?_) AllReadyH.nil
                  go_simp
                  refine hK.out _ _ (by (try dsimp only); (first | assumption | exact ⟨by assumption, by assumption, by assumption⟩ | go_keep)) (fun hHeld => ?_)
                  clear hK K
                  (try simp only [List.getElem_toArray, List.getElem_cons_succ, List.getElem_cons_zero, Act.put, List.setIfInBounds_toArray, List.set_cons_zero, List.set_cons_succ])
                  refine wpAnyH_take (i := 33) (v := ?_) rfl (by kernel_rfl) (by kernel_rfl) (by kernel_rfl) (fun _ _ _ h => h) (Or.inl ⟨by rfl, ?_⟩) (by assumption) ?_
                  rotate_left
                  · intro w' hSw; (try dsimp only at hSw); go_simp; try with_reducible rfl
                  (try simp only [List.getElem_toArray, List.getElem_cons_succ, List.getElem_cons_zero, Act.put, List.setIfInBounds_toArray, List.set_cons_zero, List.set_cons_succ])
                  refine wpAnyH_ready (rs := [34]) (by kernel_rfl) (by simp) ?_
                  refine AllReadyH.cons rfl (fun K hK => ?_) AllReadyH.nil
                  go_simp
                  refine hK.out _ _ (by (try dsimp only); (first | assumption | exact ⟨by assumption, by assumption, by assumption⟩ | go_keep)) (fun hHeld => ?_)
                  clear hK K
                  (try simp only [List.getElem_toArray, List.getElem_cons_succ, List.getElem_cons_zero, Act.put, List.setIfInBounds_toArray, List.set_cons_zero, List.set_cons_succ])
                  refine wpAnyH_take (i := 35) (v := ?_) rfl (by kernel_rfl) (by kernel_rfl) (by kernel_rfl) (fun _ _ _ h => h) (Or.inl ⟨by rfl, ?_⟩) (by assumption) ?_
                  rotate_left
                  · intro w' hSw; (try dsimp only at hSw); go_simp; try with_reducible rfl
                  (try simp only [List.getElem_toArray, List.getElem_cons_succ, List.getElem_cons_zero, Act.put, List.setIfInBounds_toArray, List.set_cons_zero, List.set_cons_succ])
                  refine wpAnyH_done (by kernel_rfl) ?_ _
                  go_wp2
                  go_meet
                  first
                    | exact ⟨_, rfl, G4, U2⟩
                    | exact ⟨_, rfl, grownBy_trans G4 (below_grown (below_one _ _)), U2.alloc _⟩
          case rest =>
            clear x0 x1 x2 hitop hgx SX
            obtain ⟨x, rfl, hgx, st⟩ := hcut
            obtain ⟨x0, -, -⟩ := HC.out _ hgx
            have S9 := Lib.hid st
            clear st CT htb lohi lo0
            have HK := HG.out
            by_cases h0 : fl = 0
            · have b0 : (fl == 0) = true := by simpa using h0
              have e0 := S9.out.sb.c 0 rfl
              have f0 := S9.out.sb.f 0 rfl
              clear fl0 fl3
              go_wp2
              go_roundg gq
              case measure => omega
              case rel => exact ⟨k + 1, _, _, _, _, by omega, by go_num, S9.out.set hgw 0 _⟩
            · have b0 : (fl == 0) = false := by simpa using h0
              by_cases h1 : fl = 1
              · have b1 : (fl == 1) = true := by simpa using h1
                have e0 := S9.out.sb.c 1 rfl
                have f0 := S9.out.sb.f 1 rfl
                clear fl0 fl3
                go_wp2
                go_roundg gq
                case measure => omega
                case rel => exact ⟨k + 1, _, _, _, _, by omega, by go_num, S9.out.set hgw 1 _⟩
              · have b1 : (fl == 1) = false := by simpa using h1
                by_cases h2 : fl = 2
                · have b2 : (fl == 2) = true := by simpa using h2
                  have e0 := S9.out.sb.c 2 rfl
                  have f0 := S9.out.sb.f 2 rfl
                  clear fl0 fl3
                  go_wp2
                  go_roundg gq
                  case measure => omega
                  case rel => exact ⟨k + 1, _, _, _, _, by omega, by go_num, S9.out.set hgw 2 _⟩
                · have b2 : (fl == 2) = false := by simpa using h2
                  have e0 := S9.out.sb.c 3 rfl
                  have f0 := S9.out.sb.f 3 rfl
                  clear fl0 fl3
                  go_wp2
                  go_roundg gq
                  case measure => omega
                  case rel => exact ⟨k + 1, _, _, _, _, by omega, by go_num, S9.out.set hgw 3 _⟩
    · obtain rfl : k = xs.length := by omega
      have st := ST.out.less (show f ≤ f + 2 * gk by omega)
      have c0 := st.sb.c 0 rfl
      have c1 := st.sb.c 1 rfl
      have c2 := st.sb.c 2 rfl
      have c3 := st.sb.c 3 rfl
      have r0 := st.rb.c 0 rfl
      have r1 := st.rb.c 1 rfl
      have r2 := st.rb.c 2 rfl
      have r3 := st.rb.c 3 rfl
      have q0 := st.rb.f 0 rfl
      have q1 := st.rb.f 1 rfl
      have q2 := st.rb.f 2 rfl
      have q3 := st.rb.f 3 rfl
      have h1 := st.hR
      have h2 := st.hS
      have h3 := st.sb.lt
      have SZ := Lib.hid st
      clear st ST
      go_wp2_with fail
      refine bodyPost_ret (v := .agg #[.int .i64 a, .int .i64 b, .int .i64 c', .int .i64 d]) (by simp [results, Tryd.results73, go_sem, r0, r1, r2, r3]) rfl ⟨a, b, c', d, rfl, ?_, ?_⟩
      · exact ((((SZ.out.setR hgw 0 _).setR hgw 1 _).setR hgw 2 _).setR hgw 3 _).gr
      · exact ((((SZ.out.setR hgw 0 _).setR hgw 1 _).setR hgw 2 _).setR hgw 3 _).rdr
end Go.Proofs.YtoapnjlpmjcloaaDoor
