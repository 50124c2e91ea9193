/- plain laws of rounds that are played, each the best reply to all earlier ones -/
import Derived.Test.YtjnaecicdaiimaaGreatDoorRgY
import Derived.Test.YtjnaecicdaiimaaGreatDoorRgR
namespace Go.Proofs.YtjnaecicdaiimaaGreatDoor
open Go.RowKit
set_option linter.unusedVariables false

def fR (M : List (List Rat)) (i : Nat) (p : Int × Int) : Rat := (M.getD i []).getD p.2.toNat 0
def fC (M : List (List Rat)) (k : Nat) (p : Int × Int) : Rat := (M.getD p.1.toNat []).getD k 0
def sumsR (M : List (List Rat)) (nr : Nat) (ps : List (Int × Int)) : List Rat := (List.range nr).map fun i => sumP (fR M i) ps 0
def sumsC (M : List (List Rat)) (nc : Nat) (ps : List (Int × Int)) : List Rat := (List.range nc).map fun k => sumP (fC M k) ps 0
def bestP (M : List (List Rat)) (nr nc : Nat) (ps : List (Int × Int)) : Int × Int := (((bestS 1 (sumsR M nr ps) (sumsR M nr ps) 0 0 : Nat) : Int), ((bestS (-1) (sumsC M nc ps) (sumsC M nc ps) 0 0 : Nat) : Int))
theorem sumsR_len (M : List (List Rat)) (nr : Nat) (ps : List (Int × Int)) : (sumsR M nr ps).length = nr := by unfold sumsR; rw [List.length_map, List.length_range]
theorem sumsC_len (M : List (List Rat)) (nr : Nat) (ps : List (Int × Int)) : (sumsC M nr ps).length = nr := by unfold sumsC; rw [List.length_map, List.length_range]
theorem sumsR_get (M : List (List Rat)) {nr : Nat} (ps : List (Int × Int)) {i : Nat} (h : i < nr) : (sumsR M nr ps)[i]? = some (sumP (fR M i) ps 0) := by unfold sumsR; rw [List.getElem?_map, List.getElem?_range h]; rfl
theorem sumsC_get (M : List (List Rat)) {nr : Nat} (ps : List (Int × Int)) {i : Nat} (h : i < nr) : (sumsC M nr ps)[i]? = some (sumP (fC M i) ps 0) := by unfold sumsC; rw [List.getElem?_map, List.getElem?_range h]; rfl
theorem sumsR_nil (M : List (List Rat)) (nr : Nat) : sumsR M nr [] = List.replicate nr 0 := by
  apply List.ext_getElem?
  intro i
  by_cases hi : i < nr
  · rw [sumsR_get M [] hi, List.getElem?_replicate, if_pos hi]; rfl
  · rw [List.getElem?_eq_none (by rw [sumsR_len]; omega), List.getElem?_replicate, if_neg hi]
theorem sumsC_nil (M : List (List Rat)) (nr : Nat) : sumsC M nr [] = List.replicate nr 0 := by
  apply List.ext_getElem?
  intro i
  by_cases hi : i < nr
  · rw [sumsC_get M [] hi, List.getElem?_replicate, if_pos hi]; rfl
  · rw [List.getElem?_eq_none (by rw [sumsC_len]; omega), List.getElem?_replicate, if_neg hi]
theorem colQ_len (M : List (List Rat)) (k : Nat) : (colQ M k).length = M.length := by unfold colQ; rw [List.length_map]
theorem colQ_at {M : List (List Rat)} {k i : Nat} (h : i < M.length) : (colQ M k)[i]? = some ((M.getD i []).getD k 0) := by
  unfold colQ
  rw [List.getElem?_map, List.getD_eq_getElem?_getD (l := M), List.getElem?_eq_getElem h]
  rfl
theorem sumsR_step {M : List (List Rat)} {nr : Nat} (hM : M.length = nr) (ps : List (Int × Int)) (b k : Nat) : addQs (sumsR M nr ps) (colQ M k) = sumsR M nr (ps ++ [((b : Int), (k : Int))]) := by
  apply List.ext_getElem?
  intro i
  by_cases hi : i < nr
  · rw [addQs_get (sumsR_get M ps hi) (colQ_at (by omega)), sumsR_get M _ hi, sumP_snoc]
    rfl
  · rw [List.getElem?_eq_none (by rw [addQs_len (by rw [colQ_len, sumsR_len]; exact hM), sumsR_len]; omega), List.getElem?_eq_none (by rw [sumsR_len]; omega)]
theorem sumsC_step {M : List (List Rat)} {nc : Nat} (ps : List (Int × Int)) (b k : Nat) (hb : (M.getD b []).length = nc) : addQs (sumsC M nc ps) (M.getD b []) = sumsC M nc (ps ++ [((b : Int), (k : Int))]) := by
  apply List.ext_getElem?
  intro i
  by_cases hi : i < nc
  · have h2 : (M.getD b [])[i]? = some ((M.getD b []).getD i 0) := by
      rw [List.getD_eq_getElem?_getD (l := M.getD b []), List.getElem?_eq_getElem (by omega)]; rfl
    rw [addQs_get (sumsC_get M ps hi) h2, sumsC_get M _ hi, sumP_snoc]
    rfl
  · rw [List.getElem?_eq_none (by rw [addQs_len (by rw [sumsC_len]; exact hb), sumsC_len]; omega), List.getElem?_eq_none (by rw [sumsC_len]; omega)]
theorem playS_at {M : List (List Rat)} {nr nc : Nat} (hM : M.length = nr) (hr : ∀ r ∈ M, r.length = nc) (h0 : 0 < nr) (h1 : 0 < nc) : ∀ (n : Nat) (ps : List (Int × Int)) (t : Nat), t < n →
    (playS M n (sumsR M nr ps) (sumsC M nc ps))[t]? = some (bestP M nr nc (ps ++ (playS M n (sumsR M nr ps) (sumsC M nc ps)).take t))
  | 0, _, t, h => absurd h (Nat.not_lt_zero t)
  | n + 1, ps, t, h => by
    have hb : bestS 1 (sumsR M nr ps) (sumsR M nr ps) 0 0 < nr := by
      have := bestS_lt 1 (sumsR M nr ps) (sumsR M nr ps) 0 0 (by omega) (by rw [sumsR_len]; exact h0)
      rwa [sumsR_len] at this
    have hl : (M.getD (bestS 1 (sumsR M nr ps) (sumsR M nr ps) 0 0) []).length = nc := by
      rw [List.getD_eq_getElem?_getD, List.getElem?_eq_getElem (by omega)]
      exact hr _ (List.getElem_mem _)
    rw [playS, sumsR_step hM ps (bestS 1 (sumsR M nr ps) (sumsR M nr ps) 0 0), sumsC_step ps _ (bestS (-1) (sumsC M nc ps) (sumsC M nc ps) 0 0) hl]
    cases t with
    | zero => rw [List.getElem?_cons_zero, List.take_zero, List.append_nil]; rfl
    | succ t =>
      rw [List.getElem?_cons_succ, playS_at hM hr h0 h1 n _ t (by omega), List.take_succ_cons, List.append_assoc]
      rfl
theorem bestP_lt {M : List (List Rat)} {nr nc : Nat} (h0 : 0 < nr) (h1 : 0 < nc) (ps : List (Int × Int)) : ∃ x y : Nat, bestP M nr nc ps = ((x : Int), (y : Int)) ∧ x < nr ∧ y < nc := by
  refine ⟨_, _, rfl, ?_, ?_⟩
  · have := bestS_lt 1 (sumsR M nr ps) (sumsR M nr ps) 0 0 (by omega) (by rw [sumsR_len]; exact h0)
    rwa [sumsR_len] at this
  · have := bestS_lt (-1) (sumsC M nc ps) (sumsC M nc ps) 0 0 (by omega) (by rw [sumsC_len]; exact h1)
    rwa [sumsC_len] at this
end Go.Proofs.YtjnaecicdaiimaaGreatDoor
