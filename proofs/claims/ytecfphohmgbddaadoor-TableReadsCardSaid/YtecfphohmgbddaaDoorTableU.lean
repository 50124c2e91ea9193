/- plain: what table.Unpack computes: cuts at a byte, canonical numbers, the loop over the runs -/
import Derived.Test.YtecfphohmgbddaaDoorTable6T
import Derived.Lib.AtoiAllCases
import Derived.Lib.IndexLaws
namespace Go.Proofs.YtecfphohmgbddaaDoor
open Go.RowKit
set_option linter.unusedVariables false

/-- the place of a byte -/
def ixB (s : ByteArray) (c : UInt8) : Int := Lib.indexByte s.data.toList c
def cutA (s : ByteArray) (c : UInt8) : ByteArray := if ixB s c = -1 then s else s.extract 0 (ixB s c).toNat
def cutR (s : ByteArray) (c : UInt8) : ByteArray := if ixB s c = -1 then ⟨#[]⟩ else s.extract ((ixB s c).toNat + 1) s.size
def cutK (s : ByteArray) (c : UInt8) : Bool := decide (ixB s c ≠ -1)

theorem ixB_cases (s : ByteArray) (c : UInt8) : ixB s c = -1 ∨ ∃ i : Nat, ixB s c = i ∧ i < s.size := by
  have h := Lib.indexByte_ge s.data.toList c
  by_cases h1 : Lib.indexByte s.data.toList c = -1
  · exact .inl h1
  · refine .inr ⟨(Lib.indexByte s.data.toList c).toNat, by unfold ixB; omega, ?_⟩
    have h2 := (Lib.indexByte_some (l := s.data.toList) (c := c) (o := (Lib.indexByte s.data.toList c).toNat) (by omega)).1
    have h3 := (List.getElem?_eq_some_iff.1 h2).1
    rw [Array.length_toList] at h3
    exact h3

theorem cutA_miss {s : ByteArray} {c : UInt8} (h : ixB s c = -1) : cutA s c = s := by rw [cutA, if_pos h]
theorem cutR_miss {s : ByteArray} {c : UInt8} (h : ixB s c = -1) : cutR s c = ⟨#[]⟩ := by rw [cutR, if_pos h]
theorem cutK_miss {s : ByteArray} {c : UInt8} (h : ixB s c = -1) : cutK s c = false := by rw [cutK, h]; rfl
theorem cutA_hit {s : ByteArray} {c : UInt8} {i : Nat} (h : ixB s c = i) : cutA s c = s.extract 0 i := by
  rw [cutA, h, if_neg (by omega)]; rfl
theorem cutR_hit {s : ByteArray} {c : UInt8} {i : Nat} (h : ixB s c = i) : cutR s c = s.extract (i + 1) s.size := by
  rw [cutR, h, if_neg (by omega)]; rfl
theorem cutK_hit {s : ByteArray} {c : UInt8} {i : Nat} (h : ixB s c = i) : cutK s c = true := by
  rw [cutK, h]; exact decide_eq_true (by omega)

theorem cutR_lt {s : ByteArray} (c : UInt8) (h : s.size ≠ 0) : (cutR s c).size < s.size := by
  rcases ixB_cases s c with h1 | ⟨i, h1, h2⟩
  · rw [cutR_miss h1]
    show 0 < s.size
    omega
  · rw [cutR_hit h1, ByteArray.size_extract]; omega
theorem cutR_le (s : ByteArray) (c : UInt8) : (cutR s c).size ≤ s.size := by
  rcases ixB_cases s c with h1 | ⟨i, h1, h2⟩
  · rw [cutR_miss h1]; exact Nat.zero_le _
  · rw [cutR_hit h1, ByteArray.size_extract]; omega
theorem cutA_le (s : ByteArray) (c : UInt8) : (cutA s c).size ≤ s.size := by
  rcases ixB_cases s c with h1 | ⟨i, h1, h2⟩
  · rw [cutA_miss h1]; exact Nat.le_refl _
  · rw [cutA_hit h1, ByteArray.size_extract]; omega

/-- the number of a canonical text -/
def numO (s : ByteArray) : Option Nat :=
  match Lib.atoiAll s.data.toList with
  | .ok v => if 0 ≤ v ∧ decT v.toNat = s then some v.toNat else none
  | _ => none

theorem numO_le {s : ByteArray} {n : Nat} (h : numO s = some n) : n ≤ 9223372036854775807 ∧ decT n = s := by
  unfold numO at h
  split at h
  · rename_i v hv
    split at h
    · rename_i hc
      obtain rfl := Option.some.inj h
      have := Lib.atoiAll_bounds hv
      exact ⟨by omega, hc.2⟩
    · cases h
  · cases h

/-- how often a run stands -/
def cntO (run : ByteArray) : Option Nat :=
  if cutK run 120 = true then (match numO (cutR run 120) with | some k => if 1 < k then some k else none | none => none) else some 1

theorem cntO_le {run : ByteArray} {k : Nat} (h : cntO run = some k) : 1 ≤ k ∧ k ≤ 9223372036854775807 := by
  unfold cntO at h
  split at h
  · split at h
    · rename_i k' hk
      split at h
      · obtain rfl := Option.some.inj h
        have := (numO_le hk).1
        omega
      · cases h
    · cases h
  · obtain rfl := Option.some.inj h
    omega

/-- one run: a value and its count, or no run -/
def runO (run : ByteArray) (last : Int) : Option (Nat × Nat) :=
  match numO (cutA run 120), cntO run with
  | some n, some k => if 9999 < n ∨ (n : Int) = last then none else some (n, k)
  | _, _ => none

def unpL (rest : ByteArray) (out : List Int) (last : Int) : Int × List Int :=
  if h : rest.size = 0 then (0, out) else
  match runO (cutA rest 59) last with
  | none => (5, [])
  | some (n, k) => if 4096 < out.length + k then (2, []) else unpL (cutR rest 59) (out ++ List.replicate k (n : Int)) (n : Int)
termination_by rest.size
decreasing_by exact cutR_lt 59 h

theorem unpL_nil {rest : ByteArray} {out : List Int} {last : Int} (h : rest.size = 0) : unpL rest out last = (0, out) := by
  rw [unpL, dif_pos h]
theorem unpL_none {rest : ByteArray} {out : List Int} {last : Int} (h : rest.size ≠ 0) (hr : runO (cutA rest 59) last = none) : unpL rest out last = (5, []) := by
  rw [unpL, dif_neg h, hr]
theorem unpL_large {rest : ByteArray} {out : List Int} {last : Int} {n k : Nat} (h : rest.size ≠ 0) (hr : runO (cutA rest 59) last = some (n, k)) (hl : 4096 < out.length + k) : unpL rest out last = (2, []) := by
  rw [unpL, dif_neg h, hr]; exact if_pos hl
theorem unpL_next {rest : ByteArray} {out : List Int} {last : Int} {n k : Nat} (h : rest.size ≠ 0) (hr : runO (cutA rest 59) last = some (n, k)) (hl : ¬ 4096 < out.length + k) :
    unpL rest out last = unpL (cutR rest 59) (out ++ List.replicate k (n : Int)) (n : Int) := by
  rw [unpL, dif_neg h, hr]; exact if_neg hl

theorem runO_some {run : ByteArray} {last : Int} {n k : Nat} (h : runO run last = some (n, k)) : numO (cutA run 120) = some n ∧ cntO run = some k ∧ n ≤ 9999 ∧ (n : Int) ≠ last := by
  unfold runO at h
  split at h
  · rename_i n' k' h1 h2
    split at h
    · cases h
    · rename_i hc
      simp only [Option.some.injEq, Prod.mk.injEq] at h
      obtain ⟨rfl, rfl⟩ := h
      exact ⟨h1, h2, by omega, fun e => hc (.inr e)⟩
  · cases h

/-- does a text end with a byte -/
def endsB (s : ByteArray) (c : UInt8) : Bool := Lib.hasSuffix s.data.toList [c]

def unpF (s : ByteArray) : Int × List Int :=
  if cutK s 35 = false ∨ numO (cutR s 35) = none ∨ ((cutA s 35).size ≠ 0 ∧ endsB (cutA s 35) 59 = false) then (5, []) else
  if (unpL (cutA s 35) [] (-1)).1 ≠ 0 then ((unpL (cutA s 35) [] (-1)).1, []) else
  if numO (cutR s 35) = some (sumF (cutA s 35)) then (0, (unpL (cutA s 35) [] (-1)).2) else (15, [])

theorem unpL_len : ∀ (m : Nat) (rest : ByteArray) (out : List Int) (last : Int), rest.size ≤ m → out.length ≤ 4096 → (unpL rest out last).2.length ≤ 4096
  | m, rest, out, last, hm, ho => by
    by_cases h : rest.size = 0
    · rw [unpL_nil h]; exact ho
    · match hr : runO (cutA rest 59) last with
      | none => rw [unpL_none h hr]; exact Nat.zero_le _
      | some (n, k) =>
        by_cases hl : 4096 < out.length + k
        · rw [unpL_large h hr hl]; exact Nat.zero_le _
        · rw [unpL_next h hr hl]
          have hlt := cutR_lt 59 h
          match m with
          | 0 => omega
          | m + 1 => exact unpL_len m _ _ _ (by omega) (by simp; omega)
end Go.Proofs.YtecfphohmgbddaaDoor
