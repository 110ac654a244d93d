/-
  'laws.FnExactRulesValid': it returns true, and every argument reads as before. The listed variable starts as the program's text lays it (the card ties it).
-/
import Derived.Test.YtoapnjlpmjcloaaDoorRows
import Derived.Test.YtoapnjlpmjcloaaDoorCards
import Derived.Test.YtoapnjlpmjcloaaDoorTie
import Derived.Deep.DeepHandedRow
import Derived.Test.YtoapnjlpmjcloaaDoorLaw
import Derived.Test.YtoapnjlpmjcloaaDoorOpen
import Derived.Test.YtoapnjlpmjcloaaDoorDoor
import Derived.Test.YtoapnjlpmjcloaaDoorLxRulesValid
import Derived.Test.YtoapnjlpmjcloaaDoorOpenRs
namespace Go.Proofs.YtoapnjlpmjcloaaDoor.fnExactRulesValid
open Go.ChangeShapes Go.WideShapes Go.ChangeAt Go.RowKit Pf

theorem own : ownKnob Tryd.prog.godebug = none := by kernel_rfl
theorem laidOut : laidOutB Tryd.prog = true := by kernel_rfl

set_option maxRecDepth 100000 in
theorem contract (H : Type) (enc : TypeId × Value → H) (W : World) (base : Nat) (args : Array Value) (ds gs : List (DataW H)) (before : List MemPlace)
    (hval : ∀ (j : Nat) t v, Tryd.f11.params[j]? = some t → args[j]? = some v → Value.okWide Tryd.prog W .any base t v)
    (hW : DataW.Whole enc Tryd.prog Tryd.f11.params.toList Rows.fnExactRulesValidSpec.vars false W args.toList ds gs before) (hL : laidMetH Tryd.prog Rows.fnExactRulesValidRow.laid W) :
    Calls Tryd.prog 11 args W fun e W' => ∃ v, e = .returned v ∧ Rows.fnExactRulesValidSpec.post enc Tryd.prog Tryd.f11 false true false false W args v W' := by
  have hT : Tab W := tab_of_laid hL
  have hW' := hW
  obtain ⟨p, q, hA0, hV, rfl, hfz, hnd⟩ := hW
  have hA : DataW.TrodAll enc Tryd.prog W 0 (fun _ => true) true Tryd.f11.params.toList args.toList ds p := hA0
  rw [Tryd.params11] at hA hval
  obtain ⟨v0, d0, rfl, rfl, h0⟩ := trodAll_one hA
  obtain ⟨A0, n0, c0, xs0, rfl, r0⟩ := open_rules Tryd.underlying64 Tryd.underlying44 (by kernel_rfl) (by kernel_rfl) rfl Tryd.underlying42 Tryd.underlying95 (by kernel_rfl) (by kernel_rfl) Tryd.underlying3 Tryd.underlying3 Tryd.underlying3 Tryd.underlying4 Tryd.underlying3 Tryd.underlying3 (hval 0 64 v0 rfl rfl) h0
  obtain ⟨g1, rfl⟩ := vars_one hV
  refine (walkFnExactRulesValid A0 n0 c0 xs0 W hT r0).mono fun e W' ⟨he, hg⟩ => ?_
  subst he
  exact ⟨_, rfl, law_post_door laidOut (by kernel_rfl) (by kernel_rfl) (by kernel_rfl) Tryd.underlying4 ⟨rfl, rfl, rfl⟩ hW' hg⟩

theorem laid_met (os : Os) : laidMet Tryd.prog Rows.fnExactRulesValidRow.laid ((laidWorld os).forCall (fun _ _ => 0) ⟨#[], #[(.slice none 0 0 : Value)], []⟩).memory :=
  laidMet_of_run' 8 (by kernel_rfl) (by kernel_rfl)
theorem reads (os : Os) {H : Type} (enc : TypeId × Value → H) : ∃ places, DataW.whole enc Tryd.prog ((laidWorld os).forCall (fun _ _ => 0) ⟨#[], #[(.slice none 0 0 : Value)], []⟩).memory Tryd.f11.params.toList Rows.fnExactRulesValidSpec.vars false #[(.slice none 0 0 : Value)].toList 8 = some ([.nil], [Rows.laid_loop_example_packetfilter_impl_fieldShapes], places) :=
  ⟨(List.range 8).map (MemPlace.cell 0), by kernel_rfl⟩

set_option maxRecDepth 100000 in
theorem lifted (os : Os) (started : os.Started) (H : Type) (enc : TypeId × Value → H) (F : Stop.Interp) :
    ReturnsInHanded {} Tryd.checked os 11 .any ((OpenSpec.ofChange Rows.fnExactRulesValidSpec).preRow enc Tryd.prog Tryd.f11 Rows.fnExactRulesValidRow.domain false Rows.fnExactRulesValidRow.laid) (((OpenSpec.ofChange Rows.fnExactRulesValidSpec).at F).post enc Tryd.prog Tryd.f11 false true false false) := by
  obtain ⟨places, hx⟩ := reads os enc
  refine returnsInHanded_of_row (C := Tryd.checked) (s := OpenSpec.ofChange Rows.fnExactRulesValidSpec) own started (by kernel_rfl) Tryd.func11
    (witness_row_at (enc := enc) (C := Tryd.checked) false (laidWorld os) #[(.slice none 0 0 : Value)] rfl (by kernel_rfl) (by kernel_rfl) (by kernel_rfl)
      (OpenSpec.preRow_of_cond 8 hx (by kernel_rfl) (fun k hk => by cases hk) (by kernel_rfl) (laid_met os))) ?_
  intro W base args ds gs before hval hW _ _ _ hL _ _
  exact contract H enc W base args ds gs before hval hW hL

theorem said : Rows.FnExactRulesValidSaid :=
  OpenClaim.holds_of_cond 11 Tryd.f11 rfl rfl rfl rfl rfl rfl rfl ⟨rfl, rfl, rfl, rfl, rfl⟩ rfl rfl rfl rfl rfl (by kernel_rfl) Tryd.func11 (by kernel_rfl)
    (of_decide_eq_true (by kernel_rfl)) (by unfold Func.isWrapper; first | (rw [if_pos (by decide +kernel)]; kernel_rfl) | (rw [if_neg (by decide +kernel)]; exact ⟨rfl, rfl⟩))
    (fun os started H enc _ F => by rw [OpenClaim.pre_eq_preRow]; exact lifted os started H enc F)

/-- No parameter wants a stand-in; the looks are off: what the card asks. -/
theorem plain (f : FuncId) (fn : Func) (hf : Tryd.pinned.checked.prog.funcNamed "loop.example/packetfilter/laws.FnExactRulesValid" = some f) (hfn : Tryd.pinned.checked.prog.funcs[f]? = some fn) :
    false = Tryd.pinned.checked.prog.looks [] ∧ ∀ (j : Nat) t, fn.params[j]? = some t → Tryd.pinned.checked.prog.wantsStandIn t = false := by
  obtain rfl : f = 11 := Option.some.inj ((show Tryd.prog.funcNamed "loop.example/packetfilter/laws.FnExactRulesValid" = some 11 by kernel_rfl).symm.trans hf) |>.symm
  obtain rfl : fn = Tryd.f11 := (Option.some.inj (Tryd.func11.symm.trans hfn)).symm
  refine ⟨by kernel_rfl, fun j t ht => ?_⟩
  rw [Tryd.params11] at ht
  have hm := Array.mem_of_getElem? ht
  obtain rfl : t = 64 := by simpa using hm
  exact (show Tryd.prog.wantsStandIn 64 = false by kernel_rfl)

theorem proved : Rows.FnExactRulesValidCardSaid :=
  Claim7.holds_tied_plain_at .later [] _ _ _ _ said (fun _ h => by cases h) (by kernel_rfl) (fun _ h => by cases h) fnExactRulesValid_row_tie rfl ⟨rfl, rfl⟩ (by kernel_rfl) rfl plain (by kernel_rfl)
#print axioms proved
end Go.Proofs.YtoapnjlpmjcloaaDoor.fnExactRulesValid
