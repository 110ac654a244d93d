/-
  WALK: spec.DrawPacketFrom: it answers some number.
-/
import Derived.Test.YtoapnjlpmjcloaaDoorDrPacket
import Derived.Test.YtoapnjlpmjcloaaDoorPkEq
import Derived.Test.YtoapnjlpmjcloaaDoorPfl
namespace Go.Proofs.YtoapnjlpmjcloaaDoor
open Go.ChangeShapes Go.WideShapes Go.ChangeAt Go.RowKit Go.Sort Pf

def DrawnNum (w : World) (e : Ending) (w' : World) : Prop := ∃ n : Int, e = .returned (.int .i64 n) ∧ I64 n ∧ Below w.heap.size w w'

/-- The reader in block g, all older blocks as they were. -/
structure NSt (w : World) (g f : Nat) (wx : World) : Prop where
  hb : Below w.heap.size w wx
  rdr : Rdr wx g f
section
variable {w wx w' : World} {g f : Nat}
theorem NSt.drew (h : NSt w g f wx) : NSt w g f wx.drew := ⟨below_drewN h.hb 1, h.rdr.drew⟩
theorem NSt.alloc (h : NSt w g f wx) (o : Obj) : NSt w g f (wx.alloc o) := ⟨chain h.hb (below_one wx o) h.hb.size, h.rdr.alloc o⟩
theorem NSt.pick {n : Nat} (h : NSt w g f wx) (hg : wx.grownBy w' (some g)) (hr : Rdr w' g n) (hgw : w.heap.size ≤ g) : NSt w g n w' :=
  ⟨h.hb.grown hg h.hb.size (fun k hk => by cases hk; exact hgw), hr⟩
theorem Blk.far {b : Nat} {vs : List Value} (h : Blk wx b vs) (hg : wx.grownBy w' (some g)) (hne : g ≠ b) : Blk w' b vs := h.grown hg (by simpa using hne)
end
def selN : Nat → Nat
  | 3 => 1
  | 4 => 2
  | 5 => 3
  | 6 => 4
  | _ => 0
def selM (n m u : Int) : Nat → Int
  | 0 => n
  | 1 => m
  | 2 => -1
  | 3 => 9223372036854775807
  | _ => u
theorem selN_lt (k : Nat) : selN k < 5 := by unfold selN; split <;> omega
theorem selM_in {n m u : Int} (hn : I64 n) (hm : I64 m) (hu : I64 u) (k : Nat) : I64 (selM n m u k) := by
  unfold selM
  split
  · exact hn
  · exact hm
  · unfold I64; omega
  · unfold I64; omega
  · exact hu
def litN : List Value := [.int .i64 0, .int .i64 0, .int .i64 0, .int .i64 1, .int .i64 2, .int .i64 3, .int .i64 4]
def litM (n m u : Int) : List Value := [.int .i64 n, .int .i64 m, .int .i64 (-1), .int .i64 9223372036854775807, .int .i64 u]
theorem litN_get' (k : Nat) (hk : k < 7) : ([.int .i64 0, .int .i64 0, .int .i64 0, .int .i64 1, .int .i64 2, .int .i64 3, .int .i64 4] : List Value)[k]? = some (.int .i64 (selN k : Nat)) := by
  match k, hk with
  | 0, _ => rfl
  | 1, _ => rfl
  | 2, _ => rfl
  | 3, _ => rfl
  | 4, _ => rfl
  | 5, _ => rfl
  | 6, _ => rfl
theorem litN_get (k : Nat) (hk : k < 7) : ([.int .i64 0, .int .i64 0, .int .i64 0, .int .i64 1, .int .i64 2, .int .i64 3, .int .i64 4] : List Value)[k]'(by simpa using hk) = .int .i64 (selN k : Nat) :=
  Option.some.inj ((List.getElem?_eq_getElem _).symm.trans (litN_get' k hk))
theorem litM_get' (n m u : Int) (k : Nat) (hk : k < 5) : ([.int .i64 n, .int .i64 m, .int .i64 (-1), .int .i64 9223372036854775807, .int .i64 u] : List Value)[k]? = some (.int .i64 (selM n m u k)) := by
  match k, hk with
  | 0, _ => rfl
  | 1, _ => rfl
  | 2, _ => rfl
  | 3, _ => rfl
  | 4, _ => rfl
theorem litM_get (n m u : Int) (k : Nat) (hk : k < 5) : ([.int .i64 n, .int .i64 m, .int .i64 (-1), .int .i64 9223372036854775807, .int .i64 u] : List Value)[k]'(by simpa using hk) = .int .i64 (selM n m u k) :=
  Option.some.inj ((List.getElem?_eq_getElem _).symm.trans (litM_get' n m u k hk))
theorem pn_top {f t p r : Int} : -1 ≤ pnF f t p r ∧ pnF f t p r ≤ 8796093022207 := by
  unfold pnF
  split
  · rename_i h
    obtain ⟨h0, h1, h2, h3⟩ := pkB_iff.1 h
    omega
  · omega

set_option maxRecDepth 20000 in
set_option maxHeartbeats 2000000 in
theorem drawPacketFrom_any (A : Option Addr) (n c : Nat) (zs : List Int) (w : World) (h : Rb w A n c zs) :
    Calls Tryd.prog 22 #[.slice A n c] w (DrawnNum w) := by
  have CO := Lib.hid (open_any A n c zs w h)
  clear h
  go_enter Tryd.func22, Tryd.ntmps22
  go_wp2_with fail
  refine (CO.out).mono ?_
  rintro e w1 ⟨g, rfl, hg, hr, hb⟩
  have HB := Lib.hid hb
  have HR := Lib.hid (hr.less (show 15 ≤ 1000000 by omega))
  clear hb hr CO
  go_wp2_with fail
  refine (drPacket_any g 2 0 _ (by omega) (by omega) HR.out).mono ?_
  rintro e w2 ⟨a, b, c, d, rfl, hg2, hr2⟩
  have N2 := Lib.hid (NSt.mk (HB.out.grown hg2 HB.out.size (fun k hk => by cases hk; omega)) hr2)
  clear hg2 hr2 HB HR
  go_wp2_with fail
  refine (sPacketNumber_any a b c d _).mono ?_
  rintro e w3 ⟨rfl, hb3⟩
  have hN := pn_top (f := a) (t := b) (p := c) (r := d)
  generalize pnF a b c d = n at hN
  have hw : IntKind.i64.wrap (n + 8796093022208) = n + 8796093022208 := IntWalk.i64_in _ (by omega)
  have hi1 : I64 n := by unfold I64; omega
  have hi2 : I64 (n + 8796093022208) := by unfold I64; omega
  have S0 : NSt w g 2 w3 := ⟨chain N2.out.hb hb3 N2.out.hb.size, N2.out.rdr.below hb3⟩
  have S1 := S0.drew
  have hgl := S0.rdr.lt
  clear hb3 N2 hN
  have hT0 := Lib.hid S0
  clear S0 S1
  go_wp2_with fail
  refine (pick_any g _ 1 256 _ hT0.out.rdr rfl).mono ?_
  intro e w4 hp
  obtain ⟨u, rfl, hu0, hu1, hg4, hr4⟩ := picked_lt (by omega) hp
  clear hp
  have S4 := Lib.hid (hT0.out.pick hg4 hr4 hg)
  have hi3 : I64 u := by unfold I64; omega
  have hgl4 := S4.out.rdr.lt
  clear hg4 hr4 hT0
  go_wp2_with fail
  refine (pick_any g _ 0 7 _ ((S4.out.alloc _).alloc _).rdr rfl).mono ?_
  intro e w5 hp
  obtain ⟨v, rfl, hv0, hv1, hg5, hr5⟩ := picked_lt (by omega) hp
  clear hp
  have S5 := Lib.hid (((S4.out.alloc _).alloc _).pick hg5 hr5 hg)
  obtain ⟨k, rfl⟩ := Int.eq_ofNat_of_zero_le hv0
  have hk7 : k < 7 := by omega
  have hj5 := selN_lt k
  have B5 := Blk.far (Blk.new _ #[.int .i64 0, .int .i64 0, .int .i64 0, .int .i64 1, .int .i64 2, .int .i64 3, .int .i64 4] _) hg5 (by simp; omega)
  have A5 := Blk.far (Blk.alloc (Blk.new _ #[.int .i64 n, .int .i64 (n + 8796093022208), .int .i64 (-1), .int .i64 9223372036854775807, .int .i64 u] _) _) hg5 (by omega)
  have b5 := B5.c k (litN_get' k hk7)
  simp only [World.size_alloc] at b5
  have a5 := A5.c (selN k) (litM_get' n (n + 8796093022208) u (selN k) hj5)
  clear hg5 hr5 A5 B5 S4
  go_wp2
  go_ret
  exact ⟨_, rfl, selM_in hi1 hi2 hi3 _, S5.out.hb⟩
end Go.Proofs.YtoapnjlpmjcloaaDoor
