/-
  THE WALK of the law FnPrefixHalves.
-/
import Derived.Test.YtmidegoedgmcnaaPfxKit
import Derived.Test.YtmidegoedgmcnaaJoinS
import Derived.Test.YtmidegoedgmcnaaPw
import Derived.Test.YtmidegoedgmcnaaDrPre
import Derived.Test.YtmidegoedgmcnaaIHave
import Derived.Test.YtmidegoedgmcnaaBlk
import Derived.BigQuiet
import Derived.Deep.QuietTactic
import Derived.Lib.QuietBelow
namespace Go.Proofs.Ytmidegoedgmcnaa
open Go.ChangeShapes Go.WideShapes Go.ChangeAt Go.RowKit Go.Sort Pf
set_option maxRecDepth 20000

/-- Two prefixes that have just been laid. -/
theorem lit2_rd {W : World} {t : TypeId} {g : Nat} (hg : g = W.heap.size) (x y z u : Int) : Rd (W.alloc (.cells #[.int .i64 x, .int .i64 y, .int .i64 z, .int .i64 u] t)) (some ⟨g, 0, none⟩) 2 2 [(x, y), (z, u)] := by
  subst hg
  exact own_rd (t := t) (xs := [(x, y), (z, u)]) (World.ownsRow_lit (e := t) (size := 2) W #[.int .i64 x, .int .i64 y, .int .i64 z, .int .i64 u] 2 (Nat.le_refl _) (by unfold maxLen; omega) rfl)
theorem lit1_rd {W : World} {t : TypeId} {g : Nat} (hg : g = W.heap.size) (x y : Int) : Rd (W.alloc (.cells #[.int .i64 x, .int .i64 y] t)) (some ⟨g, 0, none⟩) 1 1 [(x, y)] := by
  subst hg; exact Rd.one x y
theorem Rd.drewP {W : World} {A : Option Addr} {n c : Nat} {xs : PS} (h : Rd W A n c xs) : Rd W.drew A n c xs := h
/-- The three boxes. -/
structure HS (w : World) (P1 P2 P3 : Nat) (v1 v2 v3 : List Value) (wx : World) : Prop where
  hb : Below w.heap.size w wx
  b1 : Blk wx P1 v1
  b2 : Blk wx P2 v2
  b3 : Blk wx P3 v3
section
variable {w wx w' : World} {P1 P2 P3 : Nat} {v1 v2 v3 : List Value}
theorem HS.below (h : HS w P1 P2 P3 v1 v2 v3 wx) (k : Below wx.heap.size wx w') : HS w P1 P2 P3 v1 v2 v3 w' := ⟨chain h.hb k h.hb.size, h.b1.below k, h.b2.below k, h.b3.below k⟩
theorem HS.alloc (h : HS w P1 P2 P3 v1 v2 v3 wx) (o : Obj) : HS w P1 P2 P3 v1 v2 v3 (wx.alloc o) := h.below (below_one wx o)
theorem HS.drew (h : HS w P1 P2 P3 v1 v2 v3 wx) : HS w P1 P2 P3 v1 v2 v3 wx.drew := ⟨below_drewN h.hb 1, h.b1.drew, h.b2.drew, h.b3.drew⟩
end

theorem hs_full {w wx : World} {P1 P2 P3 : Nat} {x1 y1 x2 y2 x3 y3 : Int} (T : HS w P1 P2 P3 [.int .i64 x1, .int .i64 y1] [.int .i64 x2, .int .i64 y2] [.int .i64 x3, .int .i64 y3] wx) : wx.cell? ⟨P1, 0, none⟩ = some (.int .i64 x1) ∧ wx.cell? ⟨P1, 1, none⟩ = some (.int .i64 y1) ∧ wx.cell? ⟨P2, 0, none⟩ = some (.int .i64 x2) ∧ wx.cell? ⟨P2, 1, none⟩ = some (.int .i64 y2) ∧ wx.cell? ⟨P3, 0, none⟩ = some (.int .i64 x3) ∧ wx.cell? ⟨P3, 1, none⟩ = some (.int .i64 y3) := ⟨T.b1.c 0 rfl, T.b1.c 1 rfl, T.b2.c 0 rfl, T.b2.c 1 rfl, T.b3.c 0 rfl, T.b3.c 1 rfl⟩

set_option maxHeartbeats 2000000 in
theorem walkFnPrefixHalves (A : Option Addr) (n c : Nat) (zs : List Int) (w : World) (h : Rb w A n c zs) :
    Calls Try.prog 6 #[.slice A n c] w fun e w' => e = .returned (.bool true) ∧ Below w.heap.size w w' := by
  have hmax : n ≤ maxLen := Nat.le_trans h.2.1 h.2.2.1
  unfold maxLen at hmax
  have CD := Lib.hid (drawPrefixSpan_any A n c zs w h)
  clear h
  by_cases hn : n ≤ 1048576
  · have hn1 : (n : Int) ≤ 1048576 := by omega
    clear hn
    go_enter Try.func6, Try.ntmps6
    go_wp2_with fail
    refine (CD.out).mono ?_
    rintro e w1 ⟨b, l, rfl, hb1⟩
    have hx := below_one w1 (.cells #[.int .i64 b, .int .i64 l] 30)
    have H1 := Lib.hid (chain hb1 hx hb1.size)
    have K1 := Lib.hid (Blk.new w1 #[.int .i64 b, .int .i64 l] 30)
    clear hb1 hx CD
    go_upto_region 4 with fail
    generalize hPv : w1.heap.size = Pb at K1
    generalize w1.alloc (.cells #[.int .i64 b, .int .i64 l] 30) = W at *
    clear hPv
    obtain ⟨v, hv⟩ : ∃ v, pvB b l = v := ⟨_, rfl⟩
    have hne : (v != v) = false := by simp
    have k0 := cell_regrown (K1.out.c 0 rfl)
    have k1 := cell_regrown (K1.out.c 1 rfl)
    have cI := Lib.hid (fun d os => Calls.regrown_of (bool_as (iPrefixValid_any b l (grow (redrawn W d) os)) hv))
    have cS := Lib.hid (fun d os => Calls.regrown_of (bool_as (sPrefixValid_any b l (grow (redrawn W d) os)) hv))
    refine wp_region_quiet_below (by kernel_rfl) (by kernel_rfl) ?_
    repeat (go_big_quiet_step (first | (go_at_call 27; exact cI.out _ _) | (go_at_call 28; exact cS.out _ _)))
    refine wpQuiet_nil ?_
    intro _ hw'
    obtain ⟨⟨dq, osq⟩, hw''⟩ := hw'
    subst hw''
    have H2 := Lib.hid (chain H1.out (below_regrown W dq osq) H1.out.size)
    have K2 := Lib.hid (K1.out.below (below_regrown W dq osq))
    clear k0 k1 cI cS H1 K1
    dsimp only
    generalize grow (redrawn W dq) osq = V at *
    have c0 := K2.out.c 0 rfl
    have c1 := K2.out.c 1 rfl
    have HV := Lib.hid hv
    cases v with
    | false =>
      clear hv
      go_wp2_with fail
      refine (bool_as (sPrefixValid_any b l _) HV.out).mono ?_
      rintro e w3 ⟨rfl, hb3⟩
      have H3 := Lib.hid (chain H2.out hb3 H2.out.size)
      clear hb3
      go_wp2_with fail
      refine (alive_any _).mono ?_
      rintro e w4 ⟨rfl, hb4⟩
      have H4 := Lib.hid (chain H3.out hb4 H3.out.size)
      clear hb4
      go_wp2
      go_ret
      exact ⟨rfl, H4.out⟩
    | true =>
      obtain ⟨⟨l0, l1, b0, b1⟩, -⟩ := pvB_iff.1 hv
      clear hv
      go_wp2_with fail
      refine (bool_as (sPrefixValid_any b l _) HV.out).mono ?_
      rintro e w3 ⟨rfl, hb3⟩
      have H3 := Lib.hid (chain H2.out hb3 H2.out.size)
      have K3 := Lib.hid (K2.out.below hb3)
      clear hb3 c0 c1 H2 K2
      have c0 := K3.out.c 0 rfl
      have c1 := K3.out.c 1 rfl
      by_cases hl : l = 16
      · have hl1 : (l == 16) = true := by simpa using hl
        go_wp2_with fail
        refine (alive_any _).mono ?_
        rintro e w4 ⟨rfl, hb4⟩
        have H4 := Lib.hid (chain H3.out hb4 H3.out.size)
        clear hb4
        go_wp2
        go_ret
        exact ⟨rfl, H4.out⟩
      · have hl1 : (l == 16) = false := by simpa using hl
        have hl2 : l < 16 := by omega
        obtain ⟨o1, o2, o3, o4, o5⟩ := halves_within HV.out hl2
        have hjoin := join_halves HV.out hl2
        have hpw := (pw_bd (l + 1) (by omega))
        have he := pvB_end HV.out
        have hh := pw_half l hl2
        have hs1 : IntKind.i64.wrap (16 - l) = 16 - l := IntWalk.i64_in _ (by omega)
        have hs2 : IntKind.i64.wrap (16 - l - 1) = 16 - l - 1 := IntWalk.i64_in _ (by omega)
        have hs3 : 0 ≤ 16 - l - 1 := by omega
        have hs4 : wrap64 (2 ^ ((16 - l).toNat - 1)) = pw (l + 1) := by
          rw [← pw_wrap (l + 1) (by omega), show (16 - (l + 1)).toNat = (16 - l).toNat - 1 by omega]
        have hs5 : IntKind.i64.wrap (l + 1) = l + 1 := IntWalk.i64_in _ (by omega)
        have hs6 : IntKind.i64.wrap (b + pw (l + 1)) = b + pw (l + 1) := IntWalk.i64_in _ (by omega)
        generalize pw (l + 1) = q at *
        have A8 := below_one w3 (.cells #[.int .i64 b, .int .i64 (l + 1)] 30)
        have B8 := below_one (w3.alloc (.cells #[.int .i64 b, .int .i64 (l + 1)] 30)) (.cells #[.int .i64 (b + q), .int .i64 (l + 1)] 30)
        have m0 := keepCell A8 c0
        have m1 := keepCell A8 c1
        have HB3 := Blk.new (w3.alloc (.cells #[.int .i64 b, .int .i64 (l + 1)] 30)) #[.int .i64 (b + q), .int .i64 (l + 1)] 30
        rw [World.size_alloc] at HB3
        have T0 := Lib.hid (show HS w Pb w3.heap.size (w3.heap.size + 1) [.int .i64 b, .int .i64 l] [.int .i64 b, .int .i64 (l + 1)] [.int .i64 (b + q), .int .i64 (l + 1)] _ from ⟨chain (chain H3.out A8 H3.out.size) B8 (chain H3.out A8 H3.out.size).size, (K3.out.below A8).below B8, (Blk.new w3 #[.int .i64 b, .int .i64 (l + 1)] 30).below B8, HB3⟩)
        clear A8 B8 HB3 hpw he hh H3 K3 HV
        go_upto_region 11 with fail
        clear hs1 hs2 hs3 hs4 hs5 hs6 m0 m1 c0 c1
        generalize (w3.alloc (.cells #[.int .i64 b, .int .i64 (l + 1)] 30)).alloc (.cells #[.int .i64 (b + q), .int .i64 (l + 1)] 30) = W at *
        have TT := T0.out
        have T := TT.drew
        go_region_held3 (fun w' => w'.cell? ⟨Pb, 0, none⟩ = some (.int .i64 b) ∧ w'.cell? ⟨Pb, 1, none⟩ = some (.int .i64 l) ∧ w'.cell? ⟨w3.heap.size, 0, none⟩ = some (.int .i64 b) ∧ w'.cell? ⟨w3.heap.size, 1, none⟩ = some (.int .i64 (l + 1)) ∧ w'.cell? ⟨w3.heap.size + 1, 0, none⟩ = some (.int .i64 (b + q)) ∧ w'.cell? ⟨w3.heap.size + 1, 1, none⟩ = some (.int .i64 (l + 1))) (first | assumption | exact hs_full (by (first | with_reducible assumption | exact HS.alloc (by with_reducible assumption) _ | exact HS.drew (HS.alloc (by with_reducible assumption) _) | exact HS.alloc (HS.alloc (by with_reducible assumption) _) _ | exact HS.drew (HS.alloc (HS.alloc (by with_reducible assumption) _) _)))) (first | (go_at_call 24; ((with_reducible refine (owns_as (iJoinPrefixes_any _ 2 2 [(b + q, l + 1), (b, l + 1)] _ (by first | exact lit2_rd (by simp) _ _ _ _ | exact Rd.drewP (lit2_rd (by simp) _ _ _ _) | exact Rd.below (lit2_rd (by simp) _ _ _ _) (below_one _ _) | exact Rd.drewP (Rd.below (lit2_rd (by simp) _ _ _ _) (below_one _ _)))) hjoin).mono ?_); rintro e w9 ⟨A9, c9, rfl, own9, hb9⟩; have R9 : Rd w9 A9 1 c9 [(b, l)] := own_rd own9; have T9 := HS.below (by (first | with_reducible assumption | exact HS.alloc (by with_reducible assumption) _ | exact HS.drew (HS.alloc (by with_reducible assumption) _) | exact HS.alloc (HS.alloc (by with_reducible assumption) _) _ | exact HS.drew (HS.alloc (HS.alloc (by with_reducible assumption) _) _))) hb9; (first | (have P9 := Rd.below (lit1_rd rfl b l) hb9; (try simp only [World.size_alloc] at P9)) | (have P9 := Rd.below (Rd.drewP (lit1_rd rfl b l)) hb9; (try simp only [World.size_alloc] at P9)) | (have P9 := Rd.below (Rd.below (lit1_rd rfl b l) (below_one _ _)) hb9) | (have P9 := Rd.below (Rd.drewP (Rd.below (lit1_rd rfl b l) (below_one _ _))) hb9) | skip); clear hb9 own9)) | (go_at_call 20; ((with_reducible refine (samep_yes (xs := [(b, l)]) (ys := [(b, l)]) (by first | exact R9 | exact Rd.below R9 (below_one _ _)) (by first | exact P9 | exact lit1_rd (by simp) _ _) rfl).mono ?_); rintro e w10 ⟨rfl, hb10⟩; have T10 := HS.below (by (first | with_reducible assumption | exact HS.alloc (by with_reducible assumption) _ | exact HS.drew (HS.alloc (by with_reducible assumption) _) | exact HS.alloc (HS.alloc (by with_reducible assumption) _) _ | exact HS.drew (HS.alloc (HS.alloc (by with_reducible assumption) _) _))) hb10; clear hb10)) | (go_at_call 29; ((with_reducible refine (bool_as (iPrefixWithin_any b (l + 1) b l _) o1).mono ?_); rintro e w11 ⟨rfl, hb11⟩; have T11 := HS.below (by (first | with_reducible assumption | exact HS.alloc (by with_reducible assumption) _ | exact HS.drew (HS.alloc (by with_reducible assumption) _) | exact HS.alloc (HS.alloc (by with_reducible assumption) _) _ | exact HS.drew (HS.alloc (HS.alloc (by with_reducible assumption) _) _))) hb11; clear hb11)) | (go_at_call 29; ((with_reducible refine (bool_as (iPrefixWithin_any (b + q) (l + 1) b l _) o2).mono ?_); rintro e w12 ⟨rfl, hb12⟩; have T12 := HS.below (by (first | with_reducible assumption | exact HS.alloc (by with_reducible assumption) _ | exact HS.drew (HS.alloc (by with_reducible assumption) _) | exact HS.alloc (HS.alloc (by with_reducible assumption) _) _ | exact HS.drew (HS.alloc (HS.alloc (by with_reducible assumption) _) _))) hb12; clear hb12)) | (go_at_call 29; ((with_reducible refine (bool_as (iPrefixWithin_any b (l + 1) (b + q) (l + 1) _) o3).mono ?_); rintro e w13 ⟨rfl, hb13⟩; have T13 := HS.below (by (first | with_reducible assumption | exact HS.alloc (by with_reducible assumption) _ | exact HS.drew (HS.alloc (by with_reducible assumption) _) | exact HS.alloc (HS.alloc (by with_reducible assumption) _) _ | exact HS.drew (HS.alloc (HS.alloc (by with_reducible assumption) _) _))) hb13; clear hb13)))
        all_goals
          go_wp2
          go_ret
          exact ⟨rfl, T13.hb⟩
  · have hn1 : (1048576 : Int) < n := by omega
    clear hn
    go_enter Try.func6, Try.ntmps6
    go_wp2
    go_ret
    exact ⟨rfl, Below.refl _ _⟩
end Go.Proofs.Ytmidegoedgmcnaa
