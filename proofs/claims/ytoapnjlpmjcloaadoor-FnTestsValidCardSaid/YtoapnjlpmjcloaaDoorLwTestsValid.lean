/-
  THE WALK of the law FnTestsValid.
-/
import Derived.Test.YtoapnjlpmjcloaaDoorDrTvs
import Derived.Test.YtoapnjlpmjcloaaDoorTests
import Derived.Test.YtoapnjlpmjcloaaDoorToTest
import Derived.Test.YtoapnjlpmjcloaaDoorIHave
import Derived.Test.YtoapnjlpmjcloaaDoorTspansB
import Derived.Laws.AppendOwnNone
import Derived.BigFrame
namespace Go.Proofs.YtoapnjlpmjcloaaDoor
open Go.ChangeShapes Go.WideShapes Go.ChangeAt Go.RowKit Go.Sort Pf

set_option maxRecDepth 20000
/-- An append behind a guard that holds. -/
theorem wpList_append_ownG {P : Program} {w : World} {ops : Array Oper} {rest : List Oper} {o : Oper} {a : Act} {Q : Exit → Act → World → Prop} (hw : Region.wanted o (yielded ops a.tmps) = true) (s x : Operand) (t : TypeId)
    (ho : o.op = .call { callee := .builtin .append, args := #[s, x], argTypes := #[t, t] })
    (base : Nat) (e : TypeId) (i : TypeInfo) (z : Value) (size bytes : Nat) (ht : P.underlying t = some (.slice e)) (hi : P.info? e = some i) (hz : i.zero = some z)
    (hsize : i.size = size) (hby : i.bytes = bytes) (hzs : z.cells.size = size) (hsz : 0 < size)
    (v : Value) (n : Nat) (xs : List Value) (hs : a.eval s = v) (hown : w.ownsRow base e size v n xs)
    (ad : Addr) (m c : Nat) (news : List Value) (hx : a.eval x = .slice (some ad) m c) (hl : news.length = m * size) (hnews : ∀ j u, news[j]? = some u → w.cell? (ad.add j) = some u) (h1 : ∀ u ∈ news, u.oneCell' = true)
    (h63 : n + m ≤ maxLen) (hbytes : (n + m) * bytes ≤ 140737488355328) (hbase : base ≤ w.heap.size)
    (h : ∀ v' w', w'.ownsRow base e size v' (n + m) (xs ++ news) → w.grownBy w' v.ownBlock → wpList P ops Q rest (a.put o.dst v') w') : wpList P ops Q (o :: rest) a w :=
  BigFrame.wpList_want hw fun _ hK => wp_append_own w s x t ho base e i z size bytes ht hi hz hsize hby hzs hsz v n xs hs hown ad m c news hx hl hnews h1 h63 hbytes hbase fun v' w' h2 h3 _ => hK _ _ (h v' w' h2 h3)

set_option maxHeartbeats 2000000 in
theorem walkFnTestsValid (A : Option Addr) (n c : Nat) (zs : List Int) (w : World) (hT : Tab w) (h : Rb w A n c zs) :
    Calls Tryd.prog 6 #[.slice A n c] w fun e w' => e = .returned (.bool true) ∧ Below w.heap.size w w' := by
  have hmax : n ≤ maxLen := Nat.le_trans h.2.1 h.2.2.1
  unfold maxLen at hmax
  have CD := Lib.hid (drawTestsValid_any A n c zs w h)
  have HT := Lib.hid (fun W (hW : Below w.heap.size w W) => hT.below hW)
  clear h hT
  by_cases hn : n ≤ 1048576
  · have hn1 : (n : Int) ≤ 1048576 := by omega
    clear hn
    go_enter Tryd.func6, Tryd.ntmps6
    go_wp2_with fail
    refine (CD.out).mono ?_
    rintro e w1 ⟨b, cc, xs, rfl, hr1, hx7, hb1⟩
    have H1 := Lib.hid hb1
    have R1 := Lib.hid hr1
    have hlc : xs.length ≤ cc := hr1.2.1
    have hcm : cc ≤ maxLen := hr1.2.2.1
    obtain ⟨v, hv⟩ : ∃ v, tvB xs = v := ⟨_, rfl⟩
    have HV := Lib.hid hv
    have hne : (v != v) = false := by simp
    clear hb1 hr1 CD hv
    go_wp2_with fail
    refine (tv_bool (iTestsValid_any _ _ _ xs _ R1.out (HT.out _ H1.out)) HV.out).mono ?_
    rintro e w2 ⟨rfl, hb2⟩
    have H2 := Lib.hid (chain H1.out hb2 H1.out.size)
    have R2 := Lib.hid (R1.out.below hb2)
    clear hb2 H1 R1
    go_wp2_with fail
    refine (tv_bool (sTestsValid_any _ _ _ xs _ R2.out) HV.out).mono ?_
    rintro e w3 ⟨rfl, hb3⟩
    have H3 := Lib.hid (chain H2.out hb3 H2.out.size)
    have R3 := Lib.hid (R2.out.below hb3)
    clear hb3 H2 R2
    obtain ⟨h2, hh2⟩ : ∃ h2, xs.length / 2 = h2 := ⟨_, rfl⟩
    have hd2 : (xs.length : Int) / 2 = (h2 : Int) := by omega
    have hh0 : (0 : Int) ≤ h2 := by omega
    have hh1 : (h2 : Int) ≤ cc := by omega
    have hhn : h2 ≤ xs.length := by omega
    have HBAD := Lib.hid (tv_bad xs ⟨-1, 0, 0, false⟩ (by rfl))
    obtain ⟨i0, hi, hz0, hz1, hz2⟩ := info_parts infoTest
    go_upto_region 7 with fail
    go_cut [2] (fun s2 wx => s2 = .bool true ∧ Below w.heap.size w wx)
    case first =>
      cases v with
      | true =>
        have HV2 := Lib.hid (tv_take HV.out h2)
        go_wp2_with fail
        refine (tv_bool (iTestsValid_any _ _ _ (xs.take h2) _ (Rt.take R3.out hhn) (HT.out _ H3.out)) HV2.out).mono ?_
        rintro e w4 ⟨rfl, hb4⟩
        have H4 := Lib.hid (chain H3.out hb4 H3.out.size)
        have R4 := Lib.hid (R3.out.below hb4)
        clear hb4
        have hs4 := H4.out.size
        have OWN0 := Lib.hid (World.ownsRow_lit (base := w.heap.size) (e := 32) (size := 4) w4 #[] 0 hs4 (by unfold maxLen; omega) rfl)
        have NW := Lib.hid (fun j u hj => (keepCell (below_one w4 (.cells #[] 32)) (Rt.news R4.out j u hj)))
        go_wp2_with (first
          | (at_builtin; refine wpList_append_ownG (by first | rfl | kernel_rfl | simp [Region.wanted, yielded]) (.tmp 27) (.tmp 28) 39 rfl w.heap.size 32 i0 _ 4 32 Tryd.underlying39 hi hz0 hz1 hz2 rfl (by decide) _ _ _ rfl (OWN0.out) ⟨b, 0, none⟩ xs.length cc (flat4 xs) rfl (flat4_length xs) NW.out (flat4_one xs) (by unfold maxLen; omega) (by omega) (by simp; omega) ?_; intro v6 w6 own6 hg6; have hlb6 := (fun r hr => (OWN0.out.lt r hr).1 : ∀ r, (Value.slice (some ⟨w4.heap.size, 0, none⟩) 0 0).ownBlock = some r → w.heap.size ≤ r); have HB6 := Lib.hid ((chain H4.out (below_one w4 (.cells #[] 32)) hs4).grown hg6 (by simp; omega) hlb6); have hs6 := HB6.out.size; simp only [Nat.zero_add, List.nil_append] at own6; obtain ⟨A6, c6, hv6⟩ := ownS_slice own6; subst hv6; have HO6 := Lib.hid own6; clear own6 hg6 hlb6)
          | (at_builtin; refine wpList_append_ownG (by first | rfl | kernel_rfl | simp [Region.wanted, yielded]) (.tmp 29) (.tmp 31) 39 rfl w.heap.size 32 i0 _ 4 32 Tryd.underlying39 hi hz0 hz1 hz2 rfl (by decide) (.slice A6 xs.length c6) xs.length (flat4 xs) rfl (HO6.out.alloc _) ⟨w6.heap.size, 0, none⟩ 1 1 [.int .i64 (-1), .int .i64 0, .int .i64 0, .bool false] rfl rfl (newsT_at rfl _ _ _ _) (newsT_one _ _ _ _) (by unfold maxLen; omega) (by omega) (by simp; omega) ?_; intro v7 w7 own7 hg7; obtain ⟨A7, c7, hv7⟩ := ownS_slice own7; subst hv7; have HO7 := Lib.hid own7; have HG7 := Lib.hid hg7; clear own7 hg7))
        have hlb7 : ∀ r, (Value.slice A6 xs.length c6).ownBlock = some r → w.heap.size ≤ r := fun r hr => (HO6.out.lt r hr).1
        have HB7 := Lib.hid ((chain HB6.out (below_one w6 (.cells #[.int .i64 (-1), .int .i64 0, .int .i64 0, .bool false] 32)) hs6).grown HG7.out (by simp; omega) hlb7)
        have hrow := HO7.out
        rw [flat4_push xs ⟨-1, 0, 0, false⟩] at hrow
        have R7 := Lib.hid (Rt.of_own hrow)
        clear HO6 HG7 HO7 hlb7 HB6 hrow
        go_wp2_with fail
        refine (tv_bool (iTestsValid_any _ _ _ (xs ++ [⟨-1, 0, 0, false⟩]) _ R7.out (HT.out _ HB7.out)) HBAD.out).mono ?_
        rintro e w8 ⟨rfl, hb8⟩
        have H8 := Lib.hid (chain HB7.out hb8 HB7.out.size)
        clear hb8
        go_wp2_with fail
        refine (alive_any _).mono ?_
        rintro e w9 ⟨rfl, hb9⟩
        have H9 := Lib.hid (chain H8.out hb9 H8.out.size)
        clear hb9
        go_wp2
        go_meet
        exact ⟨rfl, H9.out⟩
      | false =>
        have H4 := H3
        have R4 := R3
        have hs4 := H4.out.size
        have OWN0 := Lib.hid (World.ownsRow_lit (base := w.heap.size) (e := 32) (size := 4) w3 #[] 0 hs4 (by unfold maxLen; omega) rfl)
        have NW := Lib.hid (fun j u hj => (keepCell (below_one w3 (.cells #[] 32)) (Rt.news R4.out j u hj)))
        go_wp2_with (first
          | (at_builtin; refine wpList_append_ownG (by first | rfl | kernel_rfl | simp [Region.wanted, yielded]) (.tmp 27) (.tmp 28) 39 rfl w.heap.size 32 i0 _ 4 32 Tryd.underlying39 hi hz0 hz1 hz2 rfl (by decide) _ _ _ rfl (OWN0.out) ⟨b, 0, none⟩ xs.length cc (flat4 xs) rfl (flat4_length xs) NW.out (flat4_one xs) (by unfold maxLen; omega) (by omega) (by simp; omega) ?_; intro v6 w6 own6 hg6; have hlb6 := (fun r hr => (OWN0.out.lt r hr).1 : ∀ r, (Value.slice (some ⟨w3.heap.size, 0, none⟩) 0 0).ownBlock = some r → w.heap.size ≤ r); have HB6 := Lib.hid ((chain H4.out (below_one w3 (.cells #[] 32)) hs4).grown hg6 (by simp; omega) hlb6); have hs6 := HB6.out.size; simp only [Nat.zero_add, List.nil_append] at own6; obtain ⟨A6, c6, hv6⟩ := ownS_slice own6; subst hv6; have HO6 := Lib.hid own6; clear own6 hg6 hlb6)
          | (at_builtin; refine wpList_append_ownG (by first | rfl | kernel_rfl | simp [Region.wanted, yielded]) (.tmp 29) (.tmp 31) 39 rfl w.heap.size 32 i0 _ 4 32 Tryd.underlying39 hi hz0 hz1 hz2 rfl (by decide) (.slice A6 xs.length c6) xs.length (flat4 xs) rfl (HO6.out.alloc _) ⟨w6.heap.size, 0, none⟩ 1 1 [.int .i64 (-1), .int .i64 0, .int .i64 0, .bool false] rfl rfl (newsT_at rfl _ _ _ _) (newsT_one _ _ _ _) (by unfold maxLen; omega) (by omega) (by simp; omega) ?_; intro v7 w7 own7 hg7; obtain ⟨A7, c7, hv7⟩ := ownS_slice own7; subst hv7; have HO7 := Lib.hid own7; have HG7 := Lib.hid hg7; clear own7 hg7))
        have hlb7 : ∀ r, (Value.slice A6 xs.length c6).ownBlock = some r → w.heap.size ≤ r := fun r hr => (HO6.out.lt r hr).1
        have HB7 := Lib.hid ((chain HB6.out (below_one w6 (.cells #[.int .i64 (-1), .int .i64 0, .int .i64 0, .bool false] 32)) hs6).grown HG7.out (by simp; omega) hlb7)
        have hrow := HO7.out
        rw [flat4_push xs ⟨-1, 0, 0, false⟩] at hrow
        have R7 := Lib.hid (Rt.of_own hrow)
        clear HO6 HG7 HO7 hlb7 HB6 hrow
        go_wp2_with fail
        refine (tv_bool (iTestsValid_any _ _ _ (xs ++ [⟨-1, 0, 0, false⟩]) _ R7.out (HT.out _ HB7.out)) HBAD.out).mono ?_
        rintro e w8 ⟨rfl, hb8⟩
        have H8 := Lib.hid (chain HB7.out hb8 HB7.out.size)
        clear hb8
        go_wp2_with fail
        refine (alive_any _).mono ?_
        rintro e w9 ⟨rfl, hb9⟩
        have H9 := Lib.hid (chain H8.out hb9 H8.out.size)
        clear hb9
        go_wp2
        go_meet
        exact ⟨rfl, H9.out⟩
    case rest =>
      obtain ⟨rfl, hbz⟩ := hcut
      go_wp2
      go_ret
      exact ⟨rfl, hbz⟩
  · have hn1 : (1048576 : Int) < n := by omega
    clear hn
    go_enter Tryd.func6, Tryd.ntmps6
    go_wp2
    go_ret
    exact ⟨rfl, Below.refl _ _⟩
end Go.Proofs.YtoapnjlpmjcloaaDoor
