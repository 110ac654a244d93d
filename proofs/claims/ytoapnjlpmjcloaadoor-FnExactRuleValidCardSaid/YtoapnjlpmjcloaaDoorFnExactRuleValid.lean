/-
  'laws.FnExactRuleValid': it returns true, and every argument reads as before. The listed variable starts as the program's text lays it (the card ties it).
-/
import Derived.Test.YtoapnjlpmjcloaaDoorRows
import Derived.Test.YtoapnjlpmjcloaaDoorCards
import Derived.Test.YtoapnjlpmjcloaaDoorTie
import Derived.Deep.DeepHandedRow
import Derived.Test.YtoapnjlpmjcloaaDoorLaw
import Derived.Test.YtoapnjlpmjcloaaDoorOpen
import Derived.Test.YtoapnjlpmjcloaaDoorDoor
import Derived.Test.YtoapnjlpmjcloaaDoorLxRuleValid
import Derived.Test.YtoapnjlpmjcloaaDoorOpenR
namespace Go.Proofs.YtoapnjlpmjcloaaDoor.fnExactRuleValid
open Go.ChangeShapes Go.WideShapes Go.ChangeAt Go.RowKit Pf

theorem own : ownKnob Tryd.prog.godebug = none := by kernel_rfl
theorem laidOut : laidOutB Tryd.prog = true := by kernel_rfl

set_option maxRecDepth 100000 in
theorem contract (H : Type) (enc : TypeId × Value → H) (W : World) (base : Nat) (args : Array Value) (ds gs : List (DataW H)) (before : List MemPlace)
    (hval : ∀ (j : Nat) t v, Tryd.f7.params[j]? = some t → args[j]? = some v → Value.okWide Tryd.prog W .any base t v)
    (hW : DataW.Whole enc Tryd.prog Tryd.f7.params.toList Rows.fnExactRuleValidSpec.vars false W args.toList ds gs before) (hL : laidMetH Tryd.prog Rows.fnExactRuleValidRow.laid W) :
    Calls Tryd.prog 7 args W fun e W' => ∃ v, e = .returned v ∧ Rows.fnExactRuleValidSpec.post enc Tryd.prog Tryd.f7 false true false false W args v W' := by
  have hT : Tab W := tab_of_laid hL
  have hW' := hW
  obtain ⟨p, q, hA0, hV, rfl, hfz, hnd⟩ := hW
  have hA : DataW.TrodAll enc Tryd.prog W 0 (fun _ => true) true Tryd.f7.params.toList args.toList ds p := hA0
  rw [Tryd.params7] at hA hval
  obtain ⟨v0, d0, rfl, rfl, h0⟩ := trodAll_one hA
  obtain ⟨A0, n0, c0, xs0, a0, b0, rfl, r0⟩ := open_rule Tryd.underlying44 (by kernel_rfl) (by kernel_rfl) rfl Tryd.underlying42 Tryd.underlying95 (by kernel_rfl) (by kernel_rfl) Tryd.underlying3 Tryd.underlying3 Tryd.underlying3 Tryd.underlying4 Tryd.underlying3 Tryd.underlying3 (hval 0 44 v0 rfl rfl) h0
  obtain ⟨g1, rfl⟩ := vars_one hV
  refine (walkFnExactRuleValid A0 n0 c0 xs0 a0 b0 W hT r0).mono fun e W' ⟨he, hg⟩ => ?_
  subst he
  exact ⟨_, rfl, law_post_door laidOut (by kernel_rfl) (by kernel_rfl) (by kernel_rfl) Tryd.underlying4 ⟨rfl, rfl, rfl⟩ hW' hg⟩

theorem laid_met (os : Os) : laidMet Tryd.prog Rows.fnExactRuleValidRow.laid ((laidWorld os).forCall (fun _ _ => 0) ⟨#[], #[(.agg #[.slice none 0 0, .int .i64 0, .int .i64 0] : Value)], []⟩).memory :=
  laidMet_of_run' 8 (by kernel_rfl) (by kernel_rfl)
theorem reads (os : Os) {H : Type} (enc : TypeId × Value → H) : ∃ places, DataW.whole enc Tryd.prog ((laidWorld os).forCall (fun _ _ => 0) ⟨#[], #[(.agg #[.slice none 0 0, .int .i64 0, .int .i64 0] : Value)], []⟩).memory Tryd.f7.params.toList Rows.fnExactRuleValidSpec.vars false #[(.agg #[.slice none 0 0, .int .i64 0, .int .i64 0] : Value)].toList 8 = some ([.agg [.nil, .lit (.int .i64 0), .lit (.int .i64 0)]], [Rows.laid_loop_example_packetfilter_impl_fieldShapes], places) :=
  ⟨(List.range 8).map (MemPlace.cell 0), by kernel_rfl⟩

set_option maxRecDepth 100000 in
theorem lifted (os : Os) (started : os.Started) (H : Type) (enc : TypeId × Value → H) (F : Stop.Interp) :
    ReturnsInHanded {} Tryd.checked os 7 .any ((OpenSpec.ofChange Rows.fnExactRuleValidSpec).preRow enc Tryd.prog Tryd.f7 Rows.fnExactRuleValidRow.domain false Rows.fnExactRuleValidRow.laid) (((OpenSpec.ofChange Rows.fnExactRuleValidSpec).at F).post enc Tryd.prog Tryd.f7 false true false false) := by
  obtain ⟨places, hx⟩ := reads os enc
  refine returnsInHanded_of_row (C := Tryd.checked) (s := OpenSpec.ofChange Rows.fnExactRuleValidSpec) own started (by kernel_rfl) Tryd.func7
    (witness_row_at (enc := enc) (C := Tryd.checked) false (laidWorld os) #[(.agg #[.slice none 0 0, .int .i64 0, .int .i64 0] : Value)] rfl (by kernel_rfl) (by kernel_rfl) (by kernel_rfl)
      (OpenSpec.preRow_of_cond 8 hx (by kernel_rfl) (fun k hk => by cases hk) (by kernel_rfl) (laid_met os))) ?_
  intro W base args ds gs before hval hW _ _ _ hL _ _
  exact contract H enc W base args ds gs before hval hW hL

theorem said : Rows.FnExactRuleValidSaid :=
  OpenClaim.holds_of_cond 7 Tryd.f7 rfl rfl rfl rfl rfl rfl rfl ⟨rfl, rfl, rfl, rfl, rfl⟩ rfl rfl rfl rfl rfl (by kernel_rfl) Tryd.func7 (by kernel_rfl)
    (of_decide_eq_true (by kernel_rfl)) (by unfold Func.isWrapper; first | (rw [if_pos (by decide +kernel)]; kernel_rfl) | (rw [if_neg (by decide +kernel)]; exact ⟨rfl, rfl⟩))
    (fun os started H enc _ F => by rw [OpenClaim.pre_eq_preRow]; exact lifted os started H enc F)

/-- No parameter wants a stand-in; the looks are off: what the card asks. -/
theorem plain (f : FuncId) (fn : Func) (hf : Tryd.pinned.checked.prog.funcNamed "loop.example/packetfilter/laws.FnExactRuleValid" = some f) (hfn : Tryd.pinned.checked.prog.funcs[f]? = some fn) :
    false = Tryd.pinned.checked.prog.looks [] ∧ ∀ (j : Nat) t, fn.params[j]? = some t → Tryd.pinned.checked.prog.wantsStandIn t = false := by
  obtain rfl : f = 7 := Option.some.inj ((show Tryd.prog.funcNamed "loop.example/packetfilter/laws.FnExactRuleValid" = some 7 by kernel_rfl).symm.trans hf) |>.symm
  obtain rfl : fn = Tryd.f7 := (Option.some.inj (Tryd.func7.symm.trans hfn)).symm
  refine ⟨by kernel_rfl, fun j t ht => ?_⟩
  rw [Tryd.params7] at ht
  have hm := Array.mem_of_getElem? ht
  obtain rfl : t = 44 := by simpa using hm
  exact (show Tryd.prog.wantsStandIn 44 = false by kernel_rfl)

theorem proved : Rows.FnExactRuleValidCardSaid :=
  Claim7.holds_tied_plain_at .later [] _ _ _ _ said (fun _ h => by cases h) (by kernel_rfl) (fun _ h => by cases h) fnExactRuleValid_row_tie rfl ⟨rfl, rfl⟩ (by kernel_rfl) rfl plain (by kernel_rfl)
#print axioms proved
end Go.Proofs.YtoapnjlpmjcloaaDoor.fnExactRuleValid
