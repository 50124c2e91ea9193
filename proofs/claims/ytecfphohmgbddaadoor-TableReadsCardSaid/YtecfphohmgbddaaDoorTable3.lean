/- walks of the reference: RatInt, dec at numbers that are not negative -/
import Derived.Test.YtecfphohmgbddaaDoorTable2
import Derived.Test.YtecfphohmgbddaaDoorShelf
import Derived.IntWalk
import Derived.Lib.ItoaNum
import Derived.Lib.ItoaMem
import Derived.Lib.ItoaLen
import Derived.Lib.Strings
namespace Go.Proofs.YtecfphohmgbddaaDoor
open Go.RowKit
set_option linter.unusedVariables false

def decT (n : Nat) : ByteArray := ⟨(Lib.decDigits n).toArray⟩
def digB : ByteArray := ⟨#[48, 49, 50, 51, 52, 53, 54, 55, 56, 57]⟩
theorem digB_at : ∀ r : Fin 10, (digB.extract r.1 (r.1 + 1)).data.toList = [(48 + r.1).toUInt8] := by decide +kernel
/-- the text so far and what is left -/
def decG (n : Nat) (s : List UInt8) : List UInt8 := if n = 0 ∧ s ≠ [] then s else Lib.decDigits n ++ s
def emptyN (v : Value) : Nat := match v with
  | .string s => if s.size = 0 then 1 else 0
  | _ => 0

theorem bytes_data_append (a b : ByteArray) : (a ++ b).data.toList = a.data.toList ++ b.data.toList := by
  simp

theorem decG_step {n r : Nat} {s : List UInt8} (h : 0 < n ∨ s = []) (hr : n % 10 = r) : decG (n / 10) ((48 + r).toUInt8 :: s) = decG n s := by
  have hne : ((48 + r).toUInt8 :: s) ≠ [] := by simp
  have hu : (48 + r).toUInt8 = UInt8.ofNat (48 + r) := rfl
  unfold decG
  have h2 : ¬ (n = 0 ∧ s ≠ []) := by
    rintro ⟨h1, h2⟩
    rcases h with h | h
    · omega
    · exact h2 h
  rw [if_neg h2]
  by_cases h10 : n < 10
  · have hz : n / 10 = 0 := by omega
    have hrn : r = n := by omega
    rw [if_pos ⟨hz, hne⟩, Lib.decDigits, dif_pos h10, hrn]
    rfl
  · rw [if_neg (by omega), Lib.decDigits.eq_def n, dif_neg h10, hr, hu]
    simp

theorem decG_len (n : Nat) (s : List UInt8) : s.length ≤ (decG n s).length := by
  unfold decG
  split
  · exact Nat.le_refl _
  · simp

end Go.Proofs.YtecfphohmgbddaaDoor
