/-
  WALK: spec.l3Number: the decimal digits of a number below 1000.
-/
import Derived.Test.YtbonhnllfkefnaaDoorProg
import Derived.Test.YtbonhnllfkefnaaDoorMem
import Derived.Lib.ItoaNum
import Derived.Lib.Strings
import Derived.Laws.IdiomStrings
namespace Go.Proofs.YtbonhnllfkefnaaDoor
open Go.ChangeShapes Go.WideShapes Go.RowKit Go.Sort

/-- The letter of a digit. -/
def digit (d : Nat) : UInt8 := UInt8.ofNat (48 + d)
/-- The digits ahead of the last. -/
def ahead (m : Nat) : List UInt8 := if m < 10 then [] else Lib.decDigits (m / 10)
theorem ahead_small {m : Nat} (h : m < 10) : ahead m = [] := by simp [ahead, h]
theorem ahead_step {m : Nat} (h : ¬ m < 10) : ahead m = ahead (m / 10) ++ [digit (m / 10 % 10)] := by
  unfold ahead digit
  rw [if_neg h]
  by_cases h2 : m / 10 < 10
  · rw [if_pos h2, Lib.decDigits, dif_pos h2, Nat.mod_eq_of_lt h2]; rfl
  · rw [if_neg h2, Lib.decDigits, dif_neg h2]
theorem ahead_last (m : Nat) : Lib.decDigits m = ahead m ++ [digit (m % 10)] := by
  unfold ahead digit
  by_cases h2 : m < 10
  · rw [if_pos h2, Lib.decDigits, dif_pos h2, Nat.mod_eq_of_lt h2]; rfl
  · rw [if_neg h2, Lib.decDigits, dif_neg h2]

theorem digit_back (w : World) (d : Nat) (hd : d < 10) :
    (convert 32 9 (.slice (some ⟨w.heap.size, 0, none⟩) 1 1)).run Tryd.prog (w.alloc (.cells #[.int .u8 (48 + (d : Int))] 5)) = .ok (.string ⟨#[digit d]⟩) (w.alloc (.cells #[.int .u8 (48 + (d : Int))] 5)) := by
  unfold digit
  have hn : (UInt8.ofNat (48 + d)).toNat = 48 + d := by simp [UInt8.toNat_ofNat']; omega
  refine run_convert_bytes_back _ 32 9 5 ⟨w.heap.size, 0, none⟩ 1 [UInt8.ofNat (48 + d)] Tryd.underlying32 Tryd.underlying5 Tryd.underlying9 ?_
  intro j hj
  obtain rfl : j = 0 := by simpa using hj
  simp only [List.getElem_cons_zero, hn, Addr.add]
  rw [show (((48 + d : Nat)) : Int) = 48 + (d : Int) from by omega]
  go_cell

set_option maxHeartbeats 2000000 in
theorem number_any (n : Nat) (hn : n < 1000) (w : World) :
    Calls Tryd.prog 8 #[.int .i64 n] w fun e w' => e = .returned (.string ⟨(Lib.decDigits n).toArray⟩) ∧ Below w.heap.size w w' := by
  go_enter Tryd.func8, Tryd.ntmps8
  have k0 := digit_back w (n % 10) (by omega)
  rw [show ((n % 10 : Nat) : Int) = (n : Int) % 10 from by omega] at k0
  go_wp2
  go_loopw [0, 3] (fun a s wr => ∃ (m : Nat) (t : List UInt8), m < 1000 ∧ a = .int .i64 m ∧ s = .string ⟨t.toArray⟩ ∧ t.length ≤ 1001 - m ∧ Lib.decDigits n = ahead m ++ t ∧ Below w.heap.size w wr)
    (fun a _ _ => (intOf a).toNat)
  case atStart => exact ⟨n, [digit (n % 10)], hn, rfl, rfl, (by simp; omega), ahead_last n, below_one w _⟩
  case round =>
    obtain ⟨m, t, hm, rfl, rfl, ht, hd, hb⟩ := hrel
    clear k0
    by_cases h9 : m < 10
    · rw [ahead_small h9, List.nil_append] at hd
      have hg : ¬ ((9 : Int) < m) := by omega
      go_wp2
      go_ret
      exact ⟨rfl, hb⟩
    · have k1 := digit_back wr (m / 10 % 10) (by omega)
      have hg : (9 : Int) < m := by omega
      rw [show ((m / 10 % 10 : Nat) : Int) = (m : Int) / 10 % 10 from by omega] at k1
      have hst := Lib.hid (ahead_step h9)
      have HD := Lib.hid hd
      clear hd
      have hsz : (⟨#[digit (m / 10 % 10)]⟩ : ByteArray).size + (⟨t.toArray⟩ : ByteArray).size ≤ 9223372036854775807 := by
        show #[digit (m / 10 % 10)].size + t.toArray.size ≤ _
        simp; omega
      have hcat : (⟨#[digit (m / 10 % 10)]⟩ : ByteArray) ++ (⟨t.toArray⟩ : ByteArray) = ⟨(digit (m / 10 % 10) :: t).toArray⟩ := by
        apply ByteArray.ext
        rw [ByteArray.data_append]
        simp
      have kadd := fun W : World => (run_string_add_sum (P := Tryd.prog) (w := W) _ _ hsz).trans (by rw [hcat])
      clear hsz
      go_wp2
      case roundEnd =>
        go_roundw
        case rel =>
          refine ⟨m / 10, digit (m / 10 % 10) :: t, by omega, by go_num, rfl, (by simp only [List.length_cons]; omega), ?_, hb.alloc hb.size _⟩
          rw [HD.out, hst.out]; simp
        case measure => simp [intOf]; omega
end Go.Proofs.YtbonhnllfkefnaaDoor
