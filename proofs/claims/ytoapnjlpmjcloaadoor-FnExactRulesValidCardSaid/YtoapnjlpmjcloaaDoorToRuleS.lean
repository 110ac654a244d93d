/-
  WALKS: laws.toRule (its tests lie in new memory), laws.toRuleS.
-/
import Derived.Test.YtoapnjlpmjcloaaDoorRulesR
import Derived.Test.YtoapnjlpmjcloaaDoorRuleX
namespace Go.Proofs.YtoapnjlpmjcloaaDoor
open Go.ChangeShapes Go.WideShapes Go.ChangeAt Go.RowKit Go.Sort Pf
set_option maxRecDepth 20000

set_option maxHeartbeats 1000000 in
theorem toRule_new (A : Option Addr) (n c : Nat) (xs : TS) (a ch : Int) (w : World) (h : Rt w A n c xs) (hn : n ≤ 1048576) :
    Calls Tryd.prog 31 #[.agg #[.slice A n c, .int .i64 a, .int .i64 ch]] w fun e w' => ∃ B d, e = .returned (.agg #[.slice B xs.length d, .int .i64 a, .int .i64 ch]) ∧ Rt w' B xs.length d xs ∧ (∀ q, B = some q → w.heap.size ≤ q.block) ∧ Below w.heap.size w w' := by
  have hb1 := below_one w (.cells #[.slice A n c, .int .i64 a, .int .i64 ch] 44)
  have hb2 := below_one (w.alloc (.cells #[.slice A n c, .int .i64 a, .int .i64 ch] 44)) (.cells #[.slice none 0 0, .int .i64 0, .int .i64 0] 48)
  have hb3 := below_one ((w.alloc (.cells #[.slice A n c, .int .i64 a, .int .i64 ch] 44)).alloc (.cells #[.slice none 0 0, .int .i64 0, .int .i64 0] 48)) (.cells #[.slice none 0 0, .int .i64 0, .int .i64 0] 48)
  have h12 := chain hb1 hb2 hb1.size
  have h123 := chain h12 hb3 h12.size
  have CT := Lib.hid (toTestS_any A n c xs _ (h.below h123) hn)
  have K1 := Lib.hid (((Blk.new w #[.slice A n c, .int .i64 a, .int .i64 ch] 44).below hb2).below hb3)
  have k2 := (Blk.new (w.alloc (.cells #[.slice A n c, .int .i64 a, .int .i64 ch] 44)) #[.slice none 0 0, .int .i64 0, .int .i64 0] 48).below hb3
  have k3 := Blk.new ((w.alloc (.cells #[.slice A n c, .int .i64 a, .int .i64 ch] 44)).alloc (.cells #[.slice none 0 0, .int .i64 0, .int .i64 0] 48)) #[.slice none 0 0, .int .i64 0, .int .i64 0] 48
  simp only [World.size_alloc] at k2 k3
  have K2 := Lib.hid k2
  have K3 := Lib.hid k3
  have H0 := Lib.hid h123
  clear h k2 k3 hb1 hb2 hb3 h12 h123
  go_enter Tryd.func31, Tryd.ntmps31
  go_wp2_with fail
  refine (CT.out).mono ?_
  rintro e w1 ⟨B, d, rfl, own, hb⟩
  have hne : ∀ q, B = some q → w.heap.size + 1 + 1 < q.block := by
    intro q hq
    subst hq
    rcases ownS_form own with ⟨e1, -, -⟩ | ⟨g, e1, hg, -⟩
    · cases e1
    · injection e1 with e1
      subst e1
      simp only [World.size_alloc] at hg
      simp only
      omega
  have R1 := Lib.hid (Rt.of_own own)
  have H1 := Lib.hid (chain H0.out hb H0.out.size)
  have k1 := K1.out.below hb
  have k2 := K2.out.below hb
  have k3 := K3.out.below hb
  have c0 := k1.c 0 rfl
  have c1 := k1.c 1 rfl
  have c2 := k1.c 2 rfl
  have d0 := k2.c 0 rfl
  have d1 := k2.c 1 rfl
  have d2 := k2.c 2 rfl
  have e0 := k2.f 0 rfl
  have e1 := k2.f 1 rfl
  have e2 := k2.f 2 rfl
  have m0 := k3.c 0 rfl
  have m1 := k3.c 1 rfl
  have m2 := k3.c 2 rfl
  have n0 := k3.f 0 rfl
  have n1 := k3.f 1 rfl
  have n2 := k3.f 2 rfl
  clear own hb k1 k2 k3 K1 K2 K3 H0 CT
  go_wp2
  refine bodyPost_ret (v := .agg #[.slice B xs.length d, .int .i64 a, .int .i64 ch]) (by simp [results, Tryd.results31, go_sem, d0, d1, d2]) rfl ⟨B, d, rfl, ?_, fun q hq => by have := hne q hq; omega, ?_⟩
  · have q1 : ∀ q, B = some q → q.block ≠ w.heap.size + 1 := fun q hq => by have := hne q hq; omega
    have q2 : ∀ q, B = some q → q.block ≠ w.heap.size + 1 + 1 := fun q hq => by have := hne q hq; omega
    exact (((((R1.out.setCell _ _ q2).setCell _ _ q2).setCell _ _ q2).setCell _ _ q1).setCell _ _ q1).setCell _ _ q1
  · exact (((((H1.out.setCell (by simp only; omega) _).setCell (by simp only; omega) _).setCell (by simp only; omega) _).setCell (by simp only; omega) _).setCell (by simp only; omega) _).setCell (by simp only; omega) _

theorem infoRule : (Tryd.prog.info? 48).map (fun i => (i.zero, i.size, i.bytes)) = some (some (.agg #[.slice none 0 0, .int .i64 0, .int .i64 0]), 3, 40) := by kernel_rfl

/-- The cells of a row of which the rules of a list are laid. -/
def laidR (us : List Value) (ts : List Rul) : Prop := ∀ i r, ts[i]? = some r → us[i * 3]? = some (.slice r.A r.n r.c) ∧ us[i * 3 + 1]? = some (.int .i64 r.a) ∧ us[i * 3 + 2]? = some (.int .i64 r.ch)
theorem laidR_step {us : List Value} {ts : List Rul} {r : Rul} {k : Nat} (hk : ts.length = k) (h : laidR us ts) (hl : k * 3 + 2 < us.length) :
    laidR (((us.set (k * 3) (.slice r.A r.n r.c)).set (k * 3 + 1) (.int .i64 r.a)).set (k * 3 + 2) (.int .i64 r.ch)) (ts ++ [r]) := by
  subst hk
  intro i y hy
  rcases Nat.lt_or_ge i ts.length with c | c
  · rw [List.getElem?_append_left c] at hy
    obtain ⟨h1, h2, h3⟩ := h i y hy
    have far : ∀ j, j < ts.length * 3 → (((us.set (ts.length * 3) (.slice r.A r.n r.c)).set (ts.length * 3 + 1) (.int .i64 r.a)).set (ts.length * 3 + 2) (.int .i64 r.ch))[j]? = us[j]? := fun j hj => by
      rw [List.getElem?_set_ne (by omega), List.getElem?_set_ne (by omega), List.getElem?_set_ne (by omega)]
    exact ⟨(far _ (by omega)).trans h1, (far _ (by omega)).trans h2, (far _ (by omega)).trans h3⟩
  · have hi := (List.getElem?_eq_some_iff.1 hy).1
    simp only [List.length_append, List.length_singleton] at hi
    obtain rfl : i = ts.length := by omega
    have hyr : y = r := by simpa using hy.symm
    subst hyr
    refine ⟨?_, ?_, ?_⟩
    · rw [List.getElem?_set_ne (by omega), List.getElem?_set_ne (by omega), List.getElem?_set_self (by omega)]
    · rw [List.getElem?_set_ne (by omega), List.getElem?_set_self (by simp; omega)]
    · rw [List.getElem?_set_self (by simp; omega)]
/-- Rules whose tests lie beyond block lo, readable. -/
def rulesFar (lo : Nat) (ts : List Rul) (w : World) : Prop := ∀ r ∈ ts, Rt w r.A r.n r.c r.xs ∧ ∀ q, r.A = some q → lo < q.block
theorem rulesFar_below {lo : Nat} {ts : List Rul} {w w' : World} (h : rulesFar lo ts w) (hb : Below w.heap.size w w') : rulesFar lo ts w' := fun r hr => ⟨(h r hr).1.below hb, (h r hr).2⟩
theorem rulesFar_set {lo : Nat} {ts : List Rul} {w : World} (h : rulesFar lo ts w) (p : Addr) (x : Value) (hp : p.block = lo) : rulesFar lo ts (w.setCell p x) := fun r hr =>
  ⟨(h r hr).1.setCell p x (fun q hq => by have := (h r hr).2 q hq; omega), (h r hr).2⟩
theorem rulesFar_push {lo : Nat} {ts : List Rul} {w : World} {r : Rul} (h : rulesFar lo ts w) (h1 : Rt w r.A r.n r.c r.xs) (h2 : ∀ q, r.A = some q → lo < q.block) : rulesFar lo (ts ++ [r]) w := by
  intro y hy
  rcases List.mem_append.1 hy with h' | h'
  · exact h y h'
  · simp only [List.mem_singleton] at h'
    subst h'
    exact ⟨h1, h2⟩
theorem key_step {rs ts : List Rul} {k : Nat} {r s : Rul} (h : ts.map Rul.key = (rs.take k).map Rul.key) (hs : rs[k]? = some s) (hrs : r.key = s.key) : (ts ++ [r]).map Rul.key = (rs.take (k + 1)).map Rul.key := by
  obtain ⟨hk, rfl⟩ := List.getElem?_eq_some_iff.1 hs
  rw [List.take_succ_eq_append_getElem hk, List.map_append, List.map_append, h]
  simp [hrs]
theorem Rr.of_laid {w : World} {lo g n : Nat} {t : TypeId} {us : List Value} {ts : List Rul} (own : w.ownsRow lo t 3 (.slice (some ⟨g, 0, none⟩) n n) n us) (hn : n ≤ maxLen) (hl : ts.length = n) (hu : laidR us ts) (hf : rulesFar lo ts w) : Rr w (some ⟨g, 0, none⟩) n n ts := by
  have hz : g < w.heap.size := (own.lt _ rfl).2
  have hul := own.1
  refine ⟨hl, Nat.le_refl _, hn, fun h0 => ⟨g, 0, rfl, hz, fun k r hr => ?_⟩⟩
  have hk := (List.getElem?_eq_some_iff.1 hr).1
  obtain ⟨f1, f2, f3⟩ := hu k r hr
  rw [Nat.zero_add]
  exact ⟨⟨(own.cellAt (k * 3) (by omega)).trans f1, (own.cellAt (k * 3 + 1) (by omega)).trans f2, (own.cellAt (k * 3 + 2) (by omega)).trans f3⟩, (hf r (List.mem_of_getElem? hr)).1⟩

set_option maxHeartbeats 2000000 in
theorem toRuleS_any (A : Option Addr) (n c : Nat) (rs : List Rul) (w : World) (h : Rr w A n c rs) (hn : n ≤ 1048576) (hm : ∀ r ∈ rs, r.n ≤ 1048576) :
    Calls Tryd.prog 47 #[.slice A n c] w fun e w' => ∃ B d ts, e = .returned (.slice B n d) ∧ Rr w' B n d ts ∧ ts.map Rul.key = rs.map Rul.key ∧ Below w.heap.size w w' := by
  obtain rfl : rs.length = n := h.len
  obtain ⟨i0, hi, hz0, hz1, hz2⟩ := info_parts infoRule
  have hbytes : i0.bytes * rs.length ≤ 281474976710656 := by rw [hz2]; omega
  have hmax : rs.length ≤ maxLen := by unfold maxLen; omega
  go_enter Tryd.func47, Tryd.ntmps47
  go_wp2_with (first
    | (at_make; refine wpList_make_full _ rfl (.tmp 6) (.tmp 6) 67 rfl w.heap.size 48 i0 _ 3 Tryd.underlying67 hi hz0 hz1 .i64 .i64 rs.length rs.length rs.length rfl rfl rfl rfl hbytes hmax (Nat.le_refl _) ?_; intro w1 own1 hg1))
  have hb1 : Below w.heap.size w w1 := (Below.refl _ _).grown hg1 (Nat.le_refl _) (by simp)
  have HO1 := Lib.hid own1
  have HB1 := Lib.hid hb1
  have HM := Lib.hid hm
  clear own1 hg1 hb1 hm
  go_loopw [4] (fun i wr => ∃ (k : Nat) (us : List Value) (ts : List Rul), k ≤ rs.length ∧ i = .int .i64 k ∧ wr.ownsRow w.heap.size 48 3 (.slice (some ⟨w.heap.size, 0, none⟩) rs.length rs.length) rs.length us ∧ (ts.length = k ∧ laidR us ts ∧ ts.map Rul.key = (rs.take k).map Rul.key) ∧ rulesFar w.heap.size ts wr ∧ Below w.heap.size w wr)
    (fun i _ => rs.length - (intOf i).toNat)
  case atStart => exact ⟨0, _, [], Nat.zero_le _, rfl, HO1.out, ⟨rfl, fun i r h0 => by simp at h0, by simp⟩, fun r hr => by simp at hr, HB1.out⟩
  case round =>
    obtain ⟨k, us, ts, hk, rfl, own, hlaid, hfar, hb⟩ := hrel
    clear HO1 HB1
    by_cases hkn : k < rs.length
    · obtain ⟨b, o, rfl, hbl, hc0⟩ := (h.below hb).at_ hkn
      obtain ⟨⟨c1, c2, c3⟩, hrt⟩ := hc0 hkn
      have hxm := HM.out rs[k] (List.getElem_mem hkn)
      obtain ⟨x, hx⟩ : ∃ x, x = rs[k] := ⟨_, rfl⟩
      rw [← hx] at c1 c2 c3 hrt hxm
      have HX := Lib.hid (show rs[k]? = some x by rw [hx]; exact List.getElem?_eq_getElem hkn)
      obtain ⟨xA, xn, xc, xxs, xa, xch⟩ := x
      simp only at c1 c2 c3 hrt hxm
      obtain rfl : xxs.length = xn := hrt.len
      have HO := Lib.hid own
      have HL := Lib.hid hlaid
      have HF := Lib.hid hfar
      have HH := Lib.hid h
      have hs := hb.size
      have hgl : w.heap.size < wr.heap.size := (own.lt _ rfl).2
      have hul := own.1
      have HB := Lib.hid hb
      have CR := Lib.hid (toRule_new xA xxs.length xc xxs xa xch _ hrt hxm)
      clear hc0 hx own h hlaid hfar hrt hxm
      go_wp2_with fail
      refine (CR.out).mono ?_
      rintro e w2 ⟨B, d, rfl, r2, hfr, hb2⟩
      have own2 := ownS_below HO.out hb2
      have H2 := Lib.hid (chain HB.out hb2 hs)
      have F2 := Lib.hid (rulesFar_push (r := ⟨B, xxs.length, d, xxs, xa, xch⟩) (rulesFar_below HF.out hb2) r2 (fun q hq => Nat.lt_of_lt_of_le hgl (hfr q hq)))
      have d1 := own2.cellAt (k * 3) (by omega)
      have d2 := own2.cellAt (k * 3 + 1) (by omega)
      have d3 := own2.cellAt (k * 3 + 2) (by omega)
      rw [List.getElem?_eq_getElem (by omega)] at d1 d2 d3
      generalize us[k * 3] = y1 at d1
      generalize us[k * 3 + 1] = y2 at d2
      generalize us[k * 3 + 2] = y3 at d3
      have e1 := own2.frozenAt (k * 3)
      have e2 := own2.frozenAt (k * 3 + 1)
      have e3 := own2.frozenAt (k * 3 + 2)
      have hz : w.heap.size < w2.heap.size := (own2.lt _ rfl).2
      have HO2 := Lib.hid own2
      clear HO HF hb2 own2 hb HB c1 c2 c3 r2 hfr CR
      go_wp2
      go_roundw
      case rel =>
        have s1 := (HO2.out.stored (k * 3) (.slice B xxs.length d)).1
        have s2 := (s1.stored (k * 3 + 1) (.int .i64 xa)).1
        have s3 := (s2.stored (k * 3 + 2) (.int .i64 xch)).1
        exact ⟨k + 1, _, _, by omega, by go_num, s3, ⟨by simp [HL.out.1], laidR_step (r := ⟨B, xxs.length, d, xxs, xa, xch⟩) HL.out.1 HL.out.2.1 (by omega), key_step HL.out.2.2 HX.out rfl⟩, rulesFar_set (rulesFar_set (rulesFar_set F2.out _ _ rfl) _ _ rfl) _ _ rfl, ((H2.out.setCell (by simp) _).setCell (by simp) _).setCell (by simp) _⟩
      case measure => simp [intOf]; omega
    · obtain rfl : k = rs.length := by omega
      obtain ⟨hl1, hl2, hl3⟩ := hlaid
      rw [List.take_of_length_le (Nat.le_refl _)] at hl3
      have HR := Lib.hid (Rr.of_laid own hmax hl1 hl2 hfar)
      have HK := Lib.hid hl3
      clear own hl1 hl2 hl3 hfar h
      go_wp2
      go_ret
      exact ⟨_, _, ts, rfl, HR.out, HK.out, hb⟩
end Go.Proofs.YtoapnjlpmjcloaaDoor
