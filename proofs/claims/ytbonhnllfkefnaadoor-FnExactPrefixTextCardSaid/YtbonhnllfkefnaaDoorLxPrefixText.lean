/-
  THE WALK of the law FnExactPrefixText.
-/
import Derived.Test.YtbonhnllfkefnaaDoorPtextI
import Derived.Test.YtbonhnllfkefnaaDoorToP
namespace Go.Proofs.YtbonhnllfkefnaaDoor
open Go.ChangeShapes Go.WideShapes Go.ChangeAt Go.RowKit Go.Sort Pf
set_option maxRecDepth 20000

set_option maxHeartbeats 1000000 in
theorem walkFnExactPrefixText (a b : Int) (w : World) (hT : Lib.TabIs Tryd.prog w "internal/strconv.uint64pow10" .u64 Lib.pow10Tab) :
    Calls Tryd.prog 3 #[.agg #[.int .i64 a, .int .i64 b]] w fun e w' => e = .returned (.bool true) ∧ Below w.heap.size w w' := by
  have HTB := Lib.hid (Lib.tabBelow_of_tabIs hT)
  obtain ⟨s, hs⟩ : ∃ s : ByteArray, s = ⟨(ptext a b).toArray⟩ := ⟨_, rfl⟩
  have CS := Lib.hid (fun W => hs ▸ sPrefixText_any a b W)
  have CI := Lib.hid (fun W (hW : Below w.heap.size w W) => hs ▸ iPrefixText_any a b W (HTB.out W hW))
  have H0 := Lib.hid (below_one w (.cells #[.int .i64 a, .int .i64 b] 23))
  clear hT hs HTB
  go_enter Tryd.func3, Tryd.ntmps3
  go_wp2_with fail
  refine (toPrefix_any a b _).mono ?_
  rintro e w1 ⟨rfl, hb1⟩
  have c0 := keepCell hb1 (show (w.alloc (.cells #[.int .i64 a, .int .i64 b] 23)).cell? ⟨w.heap.size, 0, none⟩ = some (.int .i64 a) by go_cell)
  have c1 := keepCell hb1 (show (w.alloc (.cells #[.int .i64 a, .int .i64 b] 23)).cell? ⟨w.heap.size, 1, none⟩ = some (.int .i64 b) by go_cell)
  have H1 := Lib.hid (chain H0.out hb1 H0.out.size)
  have hz1 : w.heap.size < w1.heap.size := by have := hb1.size; simp at this; omega
  clear hb1 H0
  go_wp2_with fail
  refine (CS.out _).mono ?_
  rintro e w2 ⟨rfl, hb2⟩
  replace c0 := (hb2.cell hz1).trans c0
  replace c1 := (hb2.cell hz1).trans c1
  have H2 := Lib.hid (chain H1.out hb2 H1.out.size)
  have hz2 : w.heap.size < w2.heap.size := Nat.lt_of_lt_of_le hz1 hb2.size
  clear hb2 H1 hz1
  go_wp2_with fail
  refine (toPrefix_any a b _).mono ?_
  rintro e w3 ⟨rfl, hb3⟩
  have H3 := Lib.hid (chain H2.out hb3 H2.out.size)
  clear hb3 H2 c0 c1 hz2
  go_wp2_with fail
  refine (CI.out _ H3.out).mono ?_
  rintro e w4 ⟨rfl, hb4⟩
  have H4 := Lib.hid (chain H3.out hb4 H3.out.size)
  clear hb4 H3
  go_wp2
  go_ret
  exact ⟨rfl, H4.out⟩
end Go.Proofs.YtbonhnllfkefnaaDoor
