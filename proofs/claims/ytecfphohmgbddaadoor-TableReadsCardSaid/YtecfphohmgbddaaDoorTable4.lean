/- the text of a table; the walk of the reference: TableText -/
import Derived.Test.YtecfphohmgbddaaDoorTable3
namespace Go.Proofs.YtecfphohmgbddaaDoor
open Go.RowKit
set_option linter.unusedVariables false

def segB (x k : Nat) : List UInt8 := Lib.decDigits x ++ (if 1 < k then 120 :: Lib.decDigits k else []) ++ [59]
def tabG : List Int → Nat → List UInt8
  | [], _ => []
  | n :: t, long => if t.head? = some n then tabG t (long + 1) else segB n.toNat (long + 1) ++ tabG t 0
def tabB (xs : List Int) : ByteArray := ⟨(tabG xs 0).toArray⟩
def tabT (xs : List Int) : ByteArray := tabB xs ++ ⟨#[35]⟩ ++ decT (sumF (tabB xs))

theorem dec_len {n : Nat} (h : n ≤ 9223372036854775807) : (Lib.decDigits n).length ≤ 21 := by
  have := Lib.itoa_length_le (n : Int) (by omega) (by omega)
  rwa [Lib.itoa_nonneg] at this
theorem decT_size {n : Nat} (h : n ≤ 9223372036854775807) : (decT n).size ≤ 21 := by
  have := dec_len h
  simpa [decT, ByteArray.size] using this
theorem segB_len {x k : Nat} (h1 : x ≤ 9223372036854775807) (h2 : k ≤ 9223372036854775807) : (segB x k).length ≤ 44 := by
  have a := dec_len h1
  have b := dec_len h2
  unfold segB
  split <;> simp <;> omega
theorem tabG_len : ∀ (xs : List Int) (long : Nat), (∀ x ∈ xs, 0 ≤ x ∧ x ≤ 9999) → long + xs.length ≤ 9223372036854775807 → (tabG xs long).length ≤ 44 * xs.length
  | [], _, _, _ => Nat.le_refl _
  | n :: t, long, h, hl => by
    have hn := h n (by simp)
    simp only [List.length_cons] at hl
    rw [tabG]
    split
    · have := tabG_len t (long + 1) (fun x hx => h x (by simp [hx])) (by omega)
      simp only [List.length_cons]; omega
    · have h1 := tabG_len t 0 (fun x hx => h x (by simp [hx])) (by omega)
      have h2 := segB_len (x := n.toNat) (k := long + 1) (by omega) (by omega)
      simp only [List.length_append, List.length_cons]; omega

theorem tblErr_zero {xs : List Int} (h : tblErr xs = 0) : xs.length ≤ 4096 ∧ ∀ x ∈ xs, 0 ≤ x ∧ x ≤ 9999 := by
  rw [tblErr] at h
  split at h
  · cases h
  · split at h
    · cases h
    · rename_i h1 h2
      refine ⟨Nat.le_of_not_lt h1, fun x hx => ?_⟩
      have h3 : ¬ (decide (x < 0) || decide (9999 < x)) = true := fun e => h2 (List.any_eq_true.2 ⟨x, hx, e⟩)
      simp at h3
      omega

theorem head_drop {xs : List Int} {k : Nat} : (xs.drop (k + 1)).head? = xs[k + 1]? := by
  rw [List.head?_eq_getElem?, List.getElem?_drop]

theorem sumS_bd : ∀ (l : List UInt8) (a b : Nat), a ≤ 65520 → b ≤ 65520 → (sumS l (a, b)).1 ≤ 65520 ∧ (sumS l (a, b)).2 ≤ 65520
  | [], a, b, ha, hb => ⟨ha, hb⟩
  | c :: t, a, b, _, _ => by rw [sumS]; exact sumS_bd t _ _ (by omega) (by omega)
theorem sumF_le (s : ByteArray) : sumF s ≤ 4294967295 := by
  have := sumS_bd s.data.toList 1 0 (by omega) (by omega)
  unfold sumF; omega

end Go.Proofs.YtecfphohmgbddaaDoor
