/-
  WALKS: spec.JoinPrefixes, impl.JoinPrefixes: 'joinV'.
-/
import Derived.Test.YtmidegoedgmcnaaPrefS
import Derived.Test.YtmidegoedgmcnaaCovs
namespace Go.Proofs.Ytmidegoedgmcnaa
open Go.ChangeShapes Go.WideShapes Go.ChangeAt Go.RowKit Go.Sort Pf
set_option maxRecDepth 20000

theorem joinV_eq (ps : PS) : coversV (prefV ps) = joinV ps := by
  unfold coversV
  rw [if_pos (prefV_valid ps)]
  rfl

theorem joinV_length (ps : PS) : (joinV ps).length ≤ 1200 := by rw [← joinV_eq]; exact coversV_length _

set_option maxHeartbeats 400000 in
theorem sJoinPrefixes_any (A : Option Addr) (n c : Nat) (ps : PS) (w : World) (h : Rd w A n c ps) (hn : n ≤ 1048576) :
    Calls Try.prog 25 #[.slice A n c] w (Owns 30 (joinV ps) w) := by
  have CP := Lib.hid (sPrefixesSpans_any A n c ps w h hn)
  clear h
  go_enter Try.func25, Try.ntmps25
  go_wp2_with fail
  refine (CP.out).mono ?_
  rintro e w1 ⟨A1, c1, rfl, own1, hb1⟩
  have CC := Lib.hid (sCoverSpans_any _ _ _ (prefV ps) w1 (own_rd own1))
  have HB := Lib.hid hb1
  clear own1 hb1
  go_wp2_with fail
  refine (CC.out).mono ?_
  rw [joinV_eq]
  rintro e w2 ⟨A2, c2, rfl, own2, hb2⟩
  have HZ := Lib.hid (show Owns 30 (joinV ps) w (.returned (.slice A2 (joinV ps).length c2)) w2 from ⟨A2, c2, rfl, own_mono own2 HB.out.size, chain HB.out hb2 HB.out.size⟩)
  clear own2 hb2
  go_wp2
  go_ret
  exact HZ.out

set_option maxHeartbeats 400000 in
theorem iJoinPrefixes_any (A : Option Addr) (n c : Nat) (ps : PS) (w : World) (h : Rd w A n c ps) :
    Calls Try.prog 24 #[.slice A n c] w (Owns 30 (joinV ps) w) := by
  have CP := Lib.hid (iPrefixesSpans_any A n c ps w h)
  clear h
  go_enter Try.func24, Try.ntmps24
  go_wp2_with fail
  refine (CP.out).mono ?_
  rintro e w1 ⟨A1, c1, rfl, own1, hb1⟩
  have CC := Lib.hid (iCoverSpans_any _ _ _ (prefV ps) w1 (own_rd own1))
  have HB := Lib.hid hb1
  clear own1 hb1
  go_wp2_with fail
  refine (CC.out).mono ?_
  rw [joinV_eq]
  rintro e w2 ⟨A2, c2, rfl, own2, hb2⟩
  have HZ := Lib.hid (show Owns 30 (joinV ps) w (.returned (.slice A2 (joinV ps).length c2)) w2 from ⟨A2, c2, rfl, own_mono own2 HB.out.size, chain HB.out hb2 HB.out.size⟩)
  clear own2 hb2
  go_wp2
  go_ret
  exact HZ.out
end Go.Proofs.Ytmidegoedgmcnaa
