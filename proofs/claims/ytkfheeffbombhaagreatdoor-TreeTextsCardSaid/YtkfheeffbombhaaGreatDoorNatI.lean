/- walk of the reference: RatInt at numbers that are not negative -/
import Derived.Test.YtkfheeffbombhaaGreatDoorNtD
import Derived.IntWalk
import Derived.Lib.ItoaNum
import Derived.Lib.ItoaLen
import Derived.Lib.Strings
namespace Go.Proofs.YtkfheeffbombhaaGreatDoor
open Go.RowKit
set_option linter.unusedVariables false

def digC : ByteArray := ⟨#[48, 49, 50, 51, 52, 53, 54, 55, 56, 57]⟩
theorem digC_at : ∀ r : Fin 10, (digC.extract r.1 (r.1 + 1)).data.toList = [(48 + r.1).toUInt8] := by decide +kernel
/-- the text so far and what is left -/
def decG (n : Nat) (s : List UInt8) : List UInt8 := if n = 0 ∧ s ≠ [] then s else Lib.decDigits n ++ s
def emptyN (v : Value) : Nat := match v with
  | .string s => if s.size = 0 then 1 else 0
  | _ => 0

theorem bytes_data_append (a b : ByteArray) : (a ++ b).data.toList = a.data.toList ++ b.data.toList := by
  simp

theorem decG_step {n r : Nat} {s : List UInt8} (h : 0 < n ∨ s = []) (hr : n % 10 = r) : decG (n / 10) ((48 + r).toUInt8 :: s) = decG n s := by
  have hne : ((48 + r).toUInt8 :: s) ≠ [] := by simp
  have hu : (48 + r).toUInt8 = UInt8.ofNat (48 + r) := rfl
  unfold decG
  have h2 : ¬ (n = 0 ∧ s ≠ []) := by
    rintro ⟨h1, h2⟩
    rcases h with h | h
    · omega
    · exact h2 h
  rw [if_neg h2]
  by_cases h10 : n < 10
  · have hz : n / 10 = 0 := by omega
    have hrn : r = n := by omega
    rw [if_pos ⟨hz, hne⟩, Lib.decDigits, dif_pos h10, hrn]
    rfl
  · rw [if_neg (by omega), Lib.decDigits.eq_def n, dif_neg h10, hr, hu]
    simp

theorem decG_len (n : Nat) (s : List UInt8) : s.length ≤ (decG n s).length := by
  unfold decG
  split
  · exact Nat.le_refl _
  · simp

set_option maxHeartbeats 1600000 in
set_option maxRecDepth 100000 in
theorem ratInt_any (n0 : Nat) (w : World) (hn : n0 ≤ 9223372036854775807) :
    Calls Tryz.prog 96 #[.int .i64 n0] w fun e w' => e = .returned (.string (decT n0)) ∧ w = w' := by
  obtain ⟨F, hF⟩ : ∃ F, Hid (Lib.decDigits n0 = F) := ⟨_, rfl⟩
  have hT : decT n0 = ⟨F.toArray⟩ := by rw [decT, hF.out]
  rw [hT]
  have hni : (0 : Int) ≤ (n0 : Int) := by omega
  have hfl : F.length ≤ 21 := by
    have := Lib.itoa_length_le (n0 : Int) (by omega) (by omega)
    rw [Lib.itoa_nonneg, hF.out] at this
    exact this
  have HFL := Lib.hid hfl
  clear hT hfl
  go_enter Tryz.func96, Tryz.ntmps96
  go_wp2_with fail
  go_loop [0, 3] (fun a s => ∃ (n : Nat) (sb : ByteArray), n ≤ 9223372036854775807 ∧ a = .int .i64 n ∧ s = .string sb ∧ Hid (decG n sb.data.toList = F)) (fun a s => (intOf a).toNat + emptyN s)
  case atStart => exact ⟨n0, ⟨#[]⟩, hn, rfl, rfl, by show _ = _; rw [← hF.out]; simp [decG]⟩
  case round =>
    obtain ⟨n, sb, hnn, rfl, rfl, HI⟩ := hrel
    by_cases hgo : 0 < n ∨ sb.data.toList = []
    · obtain ⟨r, hr⟩ : ∃ r, n % 10 = r := ⟨_, rfl⟩
      have hst := decG_step hgo hr
      obtain ⟨D, hD⟩ : ∃ D, digC.extract r (r + 1) = D := ⟨_, rfl⟩
      have hDl : D.data.toList = [(48 + r).toUInt8] := by rw [← hD]; exact digC_at ⟨r, by omega⟩
      have hnew : Hid (decG (n / 10) (D ++ sb).data.toList = F) := by
        show _ = _
        rw [bytes_data_append, hDl]
        exact hst.trans HI.out
      have hDs : D.size = 1 := by have := congrArg List.length hDl; simpa using this
      have hsz : emptyN (.string (D ++ sb)) = 0 := by
        simp only [emptyN]
        rw [if_neg]
        rw [ByteArray.size_append, hDs]; omega
      have HSZ := Lib.hid hsz
      have hD2 : (⟨#[48, 49, 50, 51, 52, 53, 54, 55, 56, 57]⟩ : ByteArray).extract r (r + 1) = D := hD
      have hr9 : r ≤ 9 := by omega
      have hri : (n : Int) % 10 = (r : Int) := by omega
      obtain ⟨m, hm⟩ : ∃ m, n / 10 = m := ⟨_, rfl⟩
      have hmi : (n : Int) / 10 = (m : Int) := by omega
      rw [hm] at hnew
      have hme : Hid (m + 0 < n + emptyN (.string sb)) := by
        show _ < _
        rcases hgo with h | h
        · have : m < n := by omega
          omega
        · have h0 : sb.size = 0 := by have := congrArg List.length h; simpa using this
          simp only [emptyN, if_pos h0]; omega
      have e1 : IntKind.i64.wrap ((r : Int) + 1) = (r : Int) + 1 := IntWalk.i64_in _ (by omega)
      have e5 : ((r : Int) + 1).toNat = r + 1 := by omega
      have hsl : D.size + sb.size ≤ 22 := by
        have h1 := decG_len n sb.data.toList
        rw [HI.out, Array.length_toList] at h1
        have h2 := HFL.out
        have h3 : sb.size = sb.data.size := rfl
        omega
      have HRM := Lib.hid hr
      have HMM := Lib.hid hm
      clear hst hD hDl hsz hDs hr hm
      by_cases hp : 0 < n
      · have hpi : (0 : Int) < (n : Int) := by omega
        clear hgo
        go_wp2_with fail
        go_round
        case rel => exact ⟨m, D ++ sb, by omega, rfl, rfl, hnew⟩
        case measure => simp only [intOf, HSZ.out, Int.toNat_natCast]; exact hme.out
      · have hn0 : n = 0 := by omega
        subst hn0
        have hs0 : sb = ⟨#[]⟩ := by
          rcases hgo with h | h
          · omega
          · obtain ⟨⟨l⟩⟩ := sb
            simp at h
            subst h; rfl
        subst hs0
        have hr0 : r = 0 := by have := HRM.out; omega
        have hm0 : m = 0 := by have := HMM.out; omega
        subst hr0
        subst hm0
        subst hD2
        clear hgo hp hri hmi e1 e5
        go_wp2_with fail
        go_round
        case rel => exact ⟨0, _, by omega, rfl, rfl, hnew⟩
        case measure => decide
    · have hn0 : n = 0 := by omega
      subst hn0
      have hsn : sb.data.toList ≠ [] := fun h => hgo (.inr h)
      have hF2 : sb.data.toList = F := by
        have h := HI.out
        rw [decG, if_pos ⟨rfl, hsn⟩] at h
        exact h
      have hsb : Hid (sb = ⟨F.toArray⟩) := by
        show _ = _
        rw [← hF2]
      have hne : (!sb.toList.isEmpty) = true := by
        rw [Lib.toList_data]
        cases hl : sb.data.toList with
        | nil => exact absurd hl hsn
        | cons a l => rfl
      have hne2 : sb.toList.isEmpty = false := by simpa using hne
      clear hgo hsn hF2
      go_wp2_with fail
      go_ret
      exact ⟨by rw [hsb.out]; rfl, rfl⟩
end Go.Proofs.YtkfheeffbombhaaGreatDoor
