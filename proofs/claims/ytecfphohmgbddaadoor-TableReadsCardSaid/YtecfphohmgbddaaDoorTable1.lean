/- walks of the package table: Code, Entry, Check, Sum; of the reference: TableSum, TableError -/
import Derived.Test.YtecfphohmgbddaaDoorSlB
namespace Go.Proofs.YtecfphohmgbddaaDoor
open Go.RowKit
set_option linter.unusedVariables false

def codeErr (r p : Int) : Int := if r < 1 ∨ 3 < r ∨ p < 0 ∨ 9999 < p ∨ 9999 < 3 * p + r - 1 then 4 else if r = 3 ∧ p ≠ 0 then 3 else 0
def codeF (r p : Int) : Int := if codeErr r p = 0 then 3 * p + r - 1 else 0

theorem code_cases (r p : Int) : (codeErr r p = 4 ∧ (r < 1 ∨ (1 ≤ r ∧ 3 < r) ∨ (1 ≤ r ∧ r ≤ 3 ∧ p < 0) ∨ (1 ≤ r ∧ r ≤ 3 ∧ 0 ≤ p ∧ 9999 < p) ∨ (1 ≤ r ∧ r ≤ 3 ∧ 0 ≤ p ∧ p ≤ 9999 ∧ 9999 < 3 * p + r - 1))) ∨
    (1 ≤ r ∧ r ≤ 3 ∧ 0 ≤ p ∧ p ≤ 9999 ∧ 3 * p + r - 1 ≤ 9999 ∧ ((codeErr r p = 3 ∧ r = 3 ∧ p ≠ 0) ∨ (codeErr r p = 0 ∧ r = 3 ∧ p = 0) ∨ (codeErr r p = 0 ∧ r ≠ 3))) := by
  unfold codeErr
  by_cases h1 : r < 1 ∨ 3 < r ∨ p < 0 ∨ 9999 < p ∨ 9999 < 3 * p + r - 1
  · rw [if_pos h1]; left; refine ⟨rfl, ?_⟩; omega
  · rw [if_neg h1]; right
    refine ⟨by omega, by omega, by omega, by omega, by omega, ?_⟩
    by_cases h2 : r = 3 ∧ p ≠ 0
    · rw [if_pos h2]; exact .inl ⟨rfl, h2.1, h2.2⟩
    · rw [if_neg h2]; right
      by_cases h3 : r = 3
      · exact .inl ⟨rfl, h3, by omega⟩
      · exact .inr ⟨rfl, h3⟩

set_option maxHeartbeats 1600000 in
set_option maxRecDepth 100000 in
theorem code_any (r p : Int) (w : World) (q z : Int) (hq : Hid (codeF r p = q)) (hz : Hid (codeErr r p = z)) :
    Calls Tryd.prog 9 #[.agg #[.int .i64 r, .int .i64 p]] w fun e w' => e = .returned (.tuple #[.int .i64 q, .int .i64 z]) ∧ Ext w w' := by
  have hq2 := hq.out
  rw [codeF, hz.out] at hq2
  have hc := code_cases r p
  rw [hz.out] at hc
  clear hq hz
  rcases hc with ⟨rfl, h⟩ | ⟨h1, h2, h3, h4, h5, h⟩
  · rw [if_neg (by decide)] at hq2
    subst hq2
    rcases h with h | ⟨h1, h⟩ | ⟨h1, h2, h⟩ | ⟨h1, h2, h3, h⟩ | ⟨h1, h2, h3, h4, h⟩
    all_goals
      go_enter Tryd.func9, Tryd.ntmps9
      go_wp2_with fail
      go_ret2
      exact ⟨rfl, (Ext.refl w).alloc _⟩
  · rcases h with ⟨rfl, rfl, h⟩ | ⟨rfl, rfl, rfl⟩ | ⟨rfl, h⟩
    · rw [if_neg (by decide)] at hq2
      subst hq2
      have hb : (p != 0) = true := by simp [h]
      clear h
      go_enter Tryd.func9, Tryd.ntmps9
      go_wp2_with fail
      go_ret2
      exact ⟨rfl, (Ext.refl w).alloc _⟩
    · rw [if_pos rfl] at hq2
      subst hq2
      go_enter Tryd.func9, Tryd.ntmps9
      go_wp2_with fail
      go_ret2
      exact ⟨rfl, (Ext.refl w).alloc _⟩
    · rw [if_pos rfl] at hq2
      subst hq2
      have hb : (r == 3) = false := by rw [beq_eq_false_iff_ne]; exact h
      clear h
      go_enter Tryd.func9, Tryd.ntmps9
      go_wp2_with fail
      go_ret2
      exact ⟨rfl, (Ext.refl w).alloc _⟩

/-- the checksum -/
def sumS : List UInt8 → Nat × Nat → Nat × Nat
  | [], st => st
  | c :: t, (a, b) => sumS t ((a + c.toNat) % 65521, (b + (a + c.toNat) % 65521) % 65521)
def sumF (s : ByteArray) : Nat := (sumS s.data.toList (1, 0)).2 * 65536 + (sumS s.data.toList (1, 0)).1
end Go.Proofs.YtecfphohmgbddaaDoor
