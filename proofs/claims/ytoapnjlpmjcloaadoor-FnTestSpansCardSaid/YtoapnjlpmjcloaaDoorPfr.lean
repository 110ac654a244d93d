/-
  WALKS: spec.PacketFrom, impl.packetOf, impl.PacketFrom, laws.eqPacket.
-/
import Derived.Test.YtoapnjlpmjcloaaDoorPkv
import Derived.Test.YtoapnjlpmjcloaaDoorOpen
namespace Go.Proofs.YtoapnjlpmjcloaaDoor
open Go.ChangeShapes Go.WideShapes Go.ChangeAt Go.RowKit Go.Sort Pf

/-- What PacketFrom answers. -/
def fromOk (n : Int) : Bool := decide (0 ≤ n) && decide (n / 65536 / 65536 / 256 ≤ 7)
def fromV (n : Int) : Value := match fromOk n with
  | true => .tuple #[.agg #[.int .i64 (n % 65536), .int .i64 (n / 65536 % 65536), .int .i64 (n / 65536 / 65536 % 256), .int .i64 (n / 65536 / 65536 / 256)], .bool true]
  | false => .tuple #[.agg #[.int .i64 0, .int .i64 0, .int .i64 0, .int .i64 0], .bool false]

theorem fromV_form (n : Int) : ∃ (x y z u : Int) (o : Bool), fromV n = .tuple #[.agg #[.int .i64 x, .int .i64 y, .int .i64 z, .int .i64 u], .bool o] := by
  unfold fromV
  cases fromOk n with
  | true => exact ⟨_, _, _, _, _, rfl⟩
  | false => exact ⟨_, _, _, _, _, rfl⟩

theorem from_bd {n : Int} (h : I64 n) (h0 : 0 ≤ n) : n / 65536 ≤ 140737488355327 ∧ n / 65536 / 65536 ≤ 2147483647 ∧ n / 65536 / 65536 / 256 ≤ 8388607 ∧ 0 ≤ n / 65536 ∧ 0 ≤ n / 65536 / 65536 ∧ 0 ≤ n / 65536 / 65536 / 256 := by
  unfold I64 at h
  omega

set_option maxHeartbeats 400000 in
theorem packetOf_any (f t p r : Int) (w : World) :
    Calls Tryd.prog 67 #[.agg #[.int .i64 f, .int .i64 t, .int .i64 p, .int .i64 r]] w fun e w' => e = .returned (.agg #[.int .i64 f, .int .i64 t, .int .i64 p, .int .i64 r]) ∧ Below w.heap.size w w' := by
  go_enter Tryd.func67, Tryd.ntmps67
  go_wp2
  refine bodyPost_ret (v := .agg #[.int .i64 f, .int .i64 t, .int .i64 p, .int .i64 r]) (by simp [results, Tryd.results67, go_sem]) rfl ⟨rfl, ?_⟩
  exact below_two _ _ _

set_option maxHeartbeats 1000000 in
theorem sPacketFrom_neg (n : Int) (hn : n < 0) (w : World) :
    Calls Tryd.prog 24 #[.int .i64 n] w fun e w' => e = .returned (.tuple #[.agg #[.int .i64 0, .int .i64 0, .int .i64 0, .int .i64 0], .bool false]) ∧ Below w.heap.size w w' := by
  go_enter Tryd.func24, Tryd.ntmps24
  go_wp2
  refine bodyPost_ret (v := .tuple #[.agg #[.int .i64 0, .int .i64 0, .int .i64 0, .int .i64 0], .bool false]) (by simp [results, Tryd.results24, go_sem]) rfl ⟨rfl, by go_grown⟩

set_option maxHeartbeats 1000000 in
theorem sPacketFrom_big (n : Int) (hi : I64 n) (h0 : 0 ≤ n) (hb : ¬ n / 65536 / 65536 / 256 ≤ 7) (w : World) :
    Calls Tryd.prog 24 #[.int .i64 n] w fun e w' => e = .returned (.tuple #[.agg #[.int .i64 0, .int .i64 0, .int .i64 0, .int .i64 0], .bool false]) ∧ Below w.heap.size w w' := by
  obtain ⟨b1, b2, b3, b4, b5, b6⟩ := from_bd hi h0
  have hpk : pkB (n % 65536) (n / 65536 % 65536) (n / 65536 / 65536 % 256) (n / 65536 / 65536 / 256) = false := pkB_false (by omega)
  have CP := Lib.hid (fun W => by have := sPacketValid_any (n % 65536) (n / 65536 % 65536) (n / 65536 / 65536 % 256) (n / 65536 / 65536 / 256) W; rwa [hpk] at this)
  clear hpk hi
  go_enter Tryd.func24, Tryd.ntmps24
  go_wp2_with fail
  refine (CP.out _).mono ?_
  rintro e w1 ⟨rfl, hb1⟩
  have H1 := chain (below_two w _ _) hb1 (by simp; omega)
  have q0 : w1.cell? ⟨w.heap.size, 0, none⟩ = some (.int .i64 0) := keepCell hb1 (by go_cell)
  have q1 : w1.cell? ⟨w.heap.size, 1, none⟩ = some (.int .i64 0) := keepCell hb1 (by go_cell)
  have q2 : w1.cell? ⟨w.heap.size, 2, none⟩ = some (.int .i64 0) := keepCell hb1 (by go_cell)
  have q3 : w1.cell? ⟨w.heap.size, 3, none⟩ = some (.int .i64 0) := keepCell hb1 (by go_cell)
  have f0 : w1.frozen? ⟨w.heap.size, 0, none⟩ = false := keepFree hb1 (v := .int .i64 0) (by go_cell) (by go_simp)
  have f1 : w1.frozen? ⟨w.heap.size, 1, none⟩ = false := keepFree hb1 (v := .int .i64 0) (by go_cell) (by go_simp)
  have f2 : w1.frozen? ⟨w.heap.size, 2, none⟩ = false := keepFree hb1 (v := .int .i64 0) (by go_cell) (by go_simp)
  have f3 : w1.frozen? ⟨w.heap.size, 3, none⟩ = false := keepFree hb1 (v := .int .i64 0) (by go_cell) (by go_simp)
  have hz : w.heap.size < w1.heap.size := World.block_lt_of_cell? _ _ q0
  clear hb1
  go_wp2
  refine bodyPost_ret (v := .tuple #[.agg #[.int .i64 0, .int .i64 0, .int .i64 0, .int .i64 0], .bool false]) (by simp [results, Tryd.results24, go_sem, q0, q1, q2, q3]) rfl ⟨rfl, ?_⟩
  exact (((H1.setCell (by simp) _).setCell (by simp) _).setCell (by simp) _).setCell (by simp) _

set_option maxHeartbeats 1000000 in
theorem sPacketFrom_ok (n : Int) (hi : I64 n) (h0 : 0 ≤ n) (hb : n / 65536 / 65536 / 256 ≤ 7) (w : World) :
    Calls Tryd.prog 24 #[.int .i64 n] w fun e w' => e = .returned (.tuple #[.agg #[.int .i64 (n % 65536), .int .i64 (n / 65536 % 65536), .int .i64 (n / 65536 / 65536 % 256), .int .i64 (n / 65536 / 65536 / 256)], .bool true]) ∧ Below w.heap.size w w' := by
  obtain ⟨b1, b2, b3, b4, b5, b6⟩ := from_bd hi h0
  have hpk : pkB (n % 65536) (n / 65536 % 65536) (n / 65536 / 65536 % 256) (n / 65536 / 65536 / 256) = true := pkB_true (by omega)
  have CP := Lib.hid (fun W => by have := sPacketValid_any (n % 65536) (n / 65536 % 65536) (n / 65536 / 65536 % 256) (n / 65536 / 65536 / 256) W; rwa [hpk] at this)
  clear hpk hi
  go_enter Tryd.func24, Tryd.ntmps24
  go_wp2_with fail
  refine (CP.out _).mono ?_
  rintro e w1 ⟨rfl, hb1⟩
  have H1 := chain (below_two w _ _) hb1 (by simp; omega)
  have q0 : w1.cell? ⟨w.heap.size, 0, none⟩ = some (.int .i64 0) := keepCell hb1 (by go_cell)
  have q1 : w1.cell? ⟨w.heap.size, 1, none⟩ = some (.int .i64 0) := keepCell hb1 (by go_cell)
  have q2 : w1.cell? ⟨w.heap.size, 2, none⟩ = some (.int .i64 0) := keepCell hb1 (by go_cell)
  have q3 : w1.cell? ⟨w.heap.size, 3, none⟩ = some (.int .i64 0) := keepCell hb1 (by go_cell)
  have f0 : w1.frozen? ⟨w.heap.size, 0, none⟩ = false := keepFree hb1 (v := .int .i64 0) (by go_cell) (by go_simp)
  have f1 : w1.frozen? ⟨w.heap.size, 1, none⟩ = false := keepFree hb1 (v := .int .i64 0) (by go_cell) (by go_simp)
  have f2 : w1.frozen? ⟨w.heap.size, 2, none⟩ = false := keepFree hb1 (v := .int .i64 0) (by go_cell) (by go_simp)
  have f3 : w1.frozen? ⟨w.heap.size, 3, none⟩ = false := keepFree hb1 (v := .int .i64 0) (by go_cell) (by go_simp)
  have p0 : w1.cell? ⟨w.heap.size + 1, 0, none⟩ = some (.int .i64 (n % 65536)) := keepCell hb1 (by go_cell)
  have p1 : w1.cell? ⟨w.heap.size + 1, 1, none⟩ = some (.int .i64 (n / 65536 % 65536)) := keepCell hb1 (by go_cell)
  have p2 : w1.cell? ⟨w.heap.size + 1, 2, none⟩ = some (.int .i64 (n / 65536 / 65536 % 256)) := keepCell hb1 (by go_cell)
  have p3 : w1.cell? ⟨w.heap.size + 1, 3, none⟩ = some (.int .i64 (n / 65536 / 65536 / 256)) := keepCell hb1 (by go_cell)
  have hz : w.heap.size < w1.heap.size := World.block_lt_of_cell? _ _ q0
  clear hb1
  go_wp2
  refine bodyPost_ret (v := .tuple #[.agg #[.int .i64 (n % 65536), .int .i64 (n / 65536 % 65536), .int .i64 (n / 65536 / 65536 % 256), .int .i64 (n / 65536 / 65536 / 256)], .bool true]) (by simp [results, Tryd.results24, go_sem, q0, q1, q2, q3]) rfl ⟨rfl, ?_⟩
  exact (((H1.setCell (by simp) _).setCell (by simp) _).setCell (by simp) _).setCell (by simp) _

theorem sPacketFrom_any (n : Int) (hi : I64 n) (w : World) :
    Calls Tryd.prog 24 #[.int .i64 n] w fun e w' => e = .returned (fromV n) ∧ Below w.heap.size w w' := by
  by_cases h0 : 0 ≤ n
  · by_cases hb : n / 65536 / 65536 / 256 ≤ 7
    · have hv : fromOk n = true := by simp [fromOk, h0, hb]
      unfold fromV
      rw [hv]
      exact sPacketFrom_ok n hi h0 hb w
    · have hv : fromOk n = false := by simp [fromOk, hb]
      unfold fromV
      rw [hv]
      exact sPacketFrom_big n hi h0 hb w
  · have hv : fromOk n = false := by simp [fromOk, h0]
    unfold fromV
    rw [hv]
    exact sPacketFrom_neg n (by omega) w

set_option maxHeartbeats 2000000 in
theorem iPacketFrom_any (n : Int) (hi : I64 n) (w : World) (hT : Tab w) :
    Calls Tryd.prog 23 #[.int .i64 n] w fun e w' => e = .returned (fromV n) ∧ Below w.heap.size w w' := by
  by_cases h0 : 0 ≤ n
  · obtain ⟨b1, b2, b3, b4, b5, b6⟩ := from_bd hi h0
    have HT := Lib.hid (fun W (hW : Below w.heap.size w W) => hT.below hW)
    have t0 := topF_0
    have t1 := topF_1
    have t2 := topF_2
    have t3 := topF_3
    clear hT hi
    go_enter Tryd.func23, Tryd.ntmps23
    go_wp2
    refine wp_loop_rounds 5 ?_
    have CO := Lib.hid (fun W => packetOf_any (n % 65536) (n / 65536 % 65536) (n / 65536 / 65536 % 256) (n / 65536 / 65536 / 256 % 8) W)
    repeat any_goals (rw [rounds_succ]; go_wp2_with (first | (go_at_call 18; refine (iFieldTop_any _ _ (HT.out _ (by go_grown))).mono ?_; rintro e w' ⟨rfl, rfl⟩) | (fail)))
    · have hne : n / 65536 / 65536 / 256 / 8 ≠ 0 := by
        have hx : (n / 65536 / 65536 / 256 / 8 != 0) = true := by assumption
        simpa using hx
      have hv : fromOk n = false := by
        have : ¬ n / 65536 / 65536 / 256 ≤ 7 := by omega
        simp [fromOk, this]
      have hV : fromV n = .tuple #[.agg #[.int .i64 0, .int .i64 0, .int .i64 0, .int .i64 0], .bool false] := by simp [fromV, hv]
      rw [hV]
      refine bodyPost_ret (v := .tuple #[.agg #[.int .i64 0, .int .i64 0, .int .i64 0, .int .i64 0], .bool false]) (by simp [results, Tryd.results23, go_sem]) rfl ⟨rfl, by go_grown⟩
    · have hne : n / 65536 / 65536 / 256 / 8 = 0 := by
        have hx : (n / 65536 / 65536 / 256 / 8 != 0) = false := by assumption
        simpa using hx
      have hle : n / 65536 / 65536 / 256 ≤ 7 := by omega
      have hm : n / 65536 / 65536 / 256 % 8 = n / 65536 / 65536 / 256 := by omega
      have hv : fromOk n = true := by simp [fromOk, h0, hle]
      have HV := Lib.hid (show fromV n = .tuple #[.agg #[.int .i64 (n % 65536), .int .i64 (n / 65536 % 65536), .int .i64 (n / 65536 / 65536 % 256), .int .i64 (n / 65536 / 65536 / 256)], .bool true] by simp [fromV, hv])
      have HM := Lib.hid hm
      clear hne hm hv
      refine (CO.out _).mono ?_
      rintro e w1 ⟨rfl, hb1⟩
      have H1 := chain (B := w.heap.size) (a := w) (by go_grown) hb1 (by simp; omega)
      have q0 : w1.cell? ⟨w.heap.size, 0, none⟩ = some (.int .i64 0) := keepCell hb1 (by go_cell)
      have q1 : w1.cell? ⟨w.heap.size, 1, none⟩ = some (.int .i64 0) := keepCell hb1 (by go_cell)
      have q2 : w1.cell? ⟨w.heap.size, 2, none⟩ = some (.int .i64 0) := keepCell hb1 (by go_cell)
      have q3 : w1.cell? ⟨w.heap.size, 3, none⟩ = some (.int .i64 0) := keepCell hb1 (by go_cell)
      have f0 : w1.frozen? ⟨w.heap.size, 0, none⟩ = false := keepFree hb1 (v := .int .i64 0) (by go_cell) (by go_simp)
      have f1 : w1.frozen? ⟨w.heap.size, 1, none⟩ = false := keepFree hb1 (v := .int .i64 0) (by go_cell) (by go_simp)
      have f2 : w1.frozen? ⟨w.heap.size, 2, none⟩ = false := keepFree hb1 (v := .int .i64 0) (by go_cell) (by go_simp)
      have f3 : w1.frozen? ⟨w.heap.size, 3, none⟩ = false := keepFree hb1 (v := .int .i64 0) (by go_cell) (by go_simp)
      have hz : w.heap.size < w1.heap.size := World.block_lt_of_cell? _ _ q0
      clear hb1 CO HT
      go_wp2
      refine bodyPost_ret (v := .tuple #[.agg #[.int .i64 (n % 65536), .int .i64 (n / 65536 % 65536), .int .i64 (n / 65536 / 65536 % 256), .int .i64 (n / 65536 / 65536 / 256 % 8)], .bool true]) (by simp [results, Tryd.results23, go_sem, q0, q1, q2, q3]) rfl ⟨by rw [HV.out, HM.out], ?_⟩
      exact (((H1.setCell (by simp) _).setCell (by simp) _).setCell (by simp) _).setCell (by simp) _
  · have hv : fromOk n = false := by simp [fromOk, h0]
    have HV := Lib.hid (show fromV n = .tuple #[.agg #[.int .i64 0, .int .i64 0, .int .i64 0, .int .i64 0], .bool false] by simp [fromV, hv])
    clear hv hT hi
    go_enter Tryd.func23, Tryd.ntmps23
    go_wp2
    refine bodyPost_ret (v := .tuple #[.agg #[.int .i64 0, .int .i64 0, .int .i64 0, .int .i64 0], .bool false]) (by simp [results, Tryd.results23, go_sem]) rfl ⟨by rw [HV.out], by go_grown⟩
end Go.Proofs.YtoapnjlpmjcloaaDoor
