/- plain laws of a table's text: a run of one number -/
import Derived.Test.YtecfphohmgbddaaDoorTable4
namespace Go.Proofs.YtecfphohmgbddaaDoor
open Go.RowKit
set_option linter.unusedVariables false

theorem tabG_run {xs : List Int} {x : Int} {k : Nat} (hk : xs[k]? ≠ some x) : ∀ (d i long : Nat), i + d + 1 = k → (∀ j, i ≤ j → j < k → xs[j]? = some x) →
    tabG (xs.drop i) long = segB x.toNat (long + d + 1) ++ tabG (xs.drop k) 0
  | 0, i, long, hd, h => by
    have hi := h i (Nat.le_refl _) (by omega)
    obtain ⟨hl, he⟩ := List.getElem?_eq_some_iff.1 hi
    rw [List.drop_eq_getElem_cons hl, he, tabG, head_drop, if_neg (by rw [show i + 1 = k from by omega]; exact hk), show i + 1 = k from by omega]
  | d + 1, i, long, hd, h => by
    have hi := h i (Nat.le_refl _) (by omega)
    obtain ⟨hl, he⟩ := List.getElem?_eq_some_iff.1 hi
    rw [List.drop_eq_getElem_cons hl, he, tabG, head_drop, if_pos (h (i + 1) (by omega) (by omega)), tabG_run hk d (i + 1) (long + 1) (by omega) (fun j h1 h2 => h j (by omega) h2)]
    rw [show long + 1 + d + 1 = long + (d + 1) + 1 from by omega]

theorem tabG_run0 {xs : List Int} {x : Int} {i k : Nat} (hik : i < k) (hk : xs[k]? ≠ some x) (h : ∀ j, i ≤ j → j < k → xs[j]? = some x) :
    tabG (xs.drop i) 0 = segB x.toNat (k - i) ++ tabG (xs.drop k) 0 := by
  have := tabG_run hk (k - i - 1) i 0 (by omega) h
  rwa [show 0 + (k - i - 1) + 1 = k - i from by omega] at this

end Go.Proofs.YtecfphohmgbddaaDoor
