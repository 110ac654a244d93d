/-
  THE FRAME OF A LAW WHOSE ROW LISTS THE TABLE OF THE FIELDS: what the list gives ('Tab'), and the row's 'post'.
-/
import Derived.Test.YtoapnjlpmjcloaaDoorTop
import Derived.Test.YtoapnjlpmjcloaaDoorLaw
import Derived.OpenVars
import Derived.Deep.DeepHandedRow
import Derived.Lib.LaidTab
namespace Go.Proofs.YtoapnjlpmjcloaaDoor
open Go.ChangeShapes Go.WideShapes Go.ChangeAt Go.RowKit Go.Deep Pf

section
variable {H : Type} {enc : TypeId × Value → H} {P : Program}
/-- THE ROW's 'post' OF A LAW THAT LISTS VARIABLES: true, every argument and every listed variable as before. -/
theorem law_post_door {f : Func} {s : ChangeSpec} {W W' : World} {args : Array Value} {ds gs : List (DataW H)} {before : List MemPlace} {tb : TypeId}
    (hl : laidOutB P = true) (hr : (f.params.toList.all fun t => P.readableRec t && decide (t < P.types.size)) = true) (hv : varsRowed P s.vars = true)
    (hrt : f.resultTypes = #[tb]) (hbool : P.underlying tb = some .bool)
    (hfn : (s.fn H (ds ++ gs)).results = [.lit (.bool true)] ∧ (s.fn H (ds ++ gs)).args = ds ∧ (s.fn H (ds ++ gs)).vars = gs)
    (hW : DataW.Whole enc P f.params.toList s.vars false W args.toList ds gs before) (hb : Below W.heap.size W W') :
    s.post enc P f false true false false W args (.bool true) W' := by
  have hlt : ∀ p ∈ before, p.block < W.heap.size := fun p hp => hW.lt p hp
  have hW' := hW
  obtain ⟨p, q, hA, hV, rfl, hfz, hnd⟩ := hW
  obtain ⟨e1, e2, e3⟩ := hfn
  refine ⟨ds, gs, p ++ q, [], p, q, hW', ?_, ?_, ?_, hb.frame _, fun h => by cases h⟩
  · rw [e1, hrt]
    exact trodAll_cons_mk (shut_bool hbool true) trodAll_mk0
  · rw [e2]
    exact below_trodAll hl hb hr (fun x hx => hlt x (List.mem_append_left _ hx)) hA
  · rw [e3]
    exact Below.trodVars hl hb hv hV
theorem vars_one {w : World} {sp : Nat → Bool} {n : String} : ∀ {gs : List (DataW H)} {q : List MemPlace}, DataW.TrodVars enc P w sp [n] gs q → ∃ g1, gs = [g1]
  | [], _, h => h.elim
  | [g1], _, _ => ⟨g1, rfl⟩
  | _ :: _ :: _, _, h => by
    obtain ⟨_, _, _, _, _, _, _, _, _, _, hs, _⟩ := h
    exact hs.elim
end

/-- A world for the witness: the settled one, the table holding what its initialiser lays. -/
noncomputable def laidWorld (os : Os) : World :=
  { World.holding Tryd.prog os ⟨#[], #[], []⟩ with heap := (World.holding Tryd.prog os ⟨#[], #[], []⟩).heap.modify 0 fun
      | .cells _ t frozen => .cells #[.string ⟨#[102, 114, 111, 109]⟩, .int .i64 65535, .string ⟨#[116, 111]⟩, .int .i64 65535, .string ⟨#[112, 111, 114, 116]⟩, .int .i64 255, .string ⟨#[112, 114, 111, 116, 111]⟩, .int .i64 7] t frozen
      | o => o }

theorem gTab : Tryd.prog.globalNamed "loop.example/packetfilter/impl.fieldShapes" = some 0 := by kernel_rfl
theorem gTabType : (Tryd.prog.globals[0]?).map (·.type) = some 90 := by kernel_rfl
theorem cellsShape : Tryd.prog.cellsOf 89 = 2 := by kernel_rfl

set_option maxRecDepth 20000 in
/-- One row of the table. -/
theorem shape_cells {H : Type} {enc : TypeId × Value → H} {w : World} {base : Nat} {spare : Nat → Bool} {held : Bool} {fuel : Nat} {cs : List Value} {s : List UInt8} {n : Int} {ps : List MemPlace}
    (h : DataW.trod enc Tryd.prog w base spare held fuel 89 cs = some (.agg [.lit (.string s), .lit (.int .i64 n)], ps)) : cs[1]? = some (.int .i64 n) := by
  obtain ⟨ys, m, _, hx, hlen, hyl, hf⟩ := DataW.trod_struct Tryd.underlying89 h
  rw [cellsShape] at hlen
  match cs, hlen with
  | [c0, c1], _ =>
    have e1 : Tryd.prog.cellsOf 3 = 1 := by kernel_rfl
    match ys, hyl with
    | [y0, y1], _ =>
      have h1 : DataW.trod enc Tryd.prog w base spare held m 3 (([c0, c1].drop 1).take (Tryd.prog.cellsOf 3)) = some y1 := hf 1 _ rfl
      rw [e1] at h1
      obtain ⟨q, e, hy, _⟩ := DataW.trod_int Tryd.underlying3 (by simpa using h1)
      simp only [List.cons.injEq, and_true] at e
      subst e
      subst hy
      simp at hx
      obtain ⟨⟨_, rfl⟩, _⟩ := hx
      rfl

set_option maxRecDepth 20000 in
theorem tab_of_laid {W : World} (h : laidMet Tryd.prog [("loop.example/packetfilter/impl.fieldShapes", Rows.laid_loop_example_packetfilter_impl_fieldShapes)] W) : Tab W := by
  obtain ⟨ps, ⟨g', t', cs, fuel, p, q, hg', ht', hvar, hd, _, _⟩, _⟩ := h
  obtain rfl := Option.some.inj (gTab.symm.trans hg')
  obtain rfl := Option.some.inj (gTabType.symm.trans ht')
  obtain ⟨xs, m, _, hx, hlen, hxl, hf⟩ := DataW.trod_array Tryd.underlying90 hd
  have hcl : cs.toList.length = 8 := by
    rw [hlen]; kernel_rfl
  unfold Rows.laid_loop_example_packetfilter_impl_fieldShapes at hx
  match xs, hxl with
  | [y0, y1, y2, y3], _ =>
    simp only [List.map_cons, List.map_nil, Prod.mk.injEq, DataW.agg.injEq, List.cons.injEq, and_true] at hx
    obtain ⟨⟨e0, e1, e2, e3⟩, _⟩ := hx
    have g0 := hf 0 (by omega)
    have g1 := hf 1 (by omega)
    have g2 := hf 2 (by omega)
    have g3 := hf 3 (by omega)
    rw [cellsShape] at g0 g1 g2 g3
    simp only [List.getElem?_cons_zero, List.getElem?_cons_succ] at g0 g1 g2 g3
    obtain ⟨d0, p0⟩ := y0
    obtain ⟨d1, p1⟩ := y1
    obtain ⟨d2, p2⟩ := y2
    obtain ⟨d3, p3⟩ := y3
    simp only at e0 e1 e2 e3
    subst e0 e1 e2 e3
    have k0 := shape_cells g0
    have k1 := shape_cells g1
    have k2 := shape_cells g2
    have k3 := shape_cells g3
    have key := fun i => World.var?_cell gTab hvar i
    refine ⟨?_, ?_, ?_, ?_⟩
    · rw [key 1]; simpa using k0
    · rw [key 3]; simpa using k1
    · rw [key 5]; simpa using k2
    · rw [key 7]; simpa using k3
end Go.Proofs.YtoapnjlpmjcloaaDoor
