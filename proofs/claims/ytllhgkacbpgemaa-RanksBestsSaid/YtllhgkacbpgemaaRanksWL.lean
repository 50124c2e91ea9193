/- plain law: the greatest hands, as Winners finds them and as the law names them -/
import Derived.Test.YtllhgkacbpgemaaRanks15
namespace Go.Proofs.Ytllhgkacbpgemaa
open Go.RowKit
set_option linter.unusedVariables false

def idxV (M : Int) : Nat → List Int → List Nat
  | _, [] => []
  | k, v :: t => (if v = M then [k] else []) ++ idxV M (k + 1) t
def outV (all : List Int) : Nat → List Int → List Nat
  | _, [] => []
  | k, v :: t => (if all.any (fun x => decide (v < x)) then [] else [k]) ++ outV all (k + 1) t

theorem foldl_max : ∀ (l : List Int) (a : Int), a ≤ l.foldl max a ∧ (∀ x ∈ l, x ≤ l.foldl max a) ∧ (l.foldl max a = a ∨ l.foldl max a ∈ l)
  | [], a => ⟨Int.le_refl _, (fun x h => by cases h), .inl rfl⟩
  | y :: l, a => by
    obtain ⟨h1, h2, h3⟩ := foldl_max l (max a y)
    rw [List.foldl_cons]
    have hm1 : a ≤ max a y := Int.le_max_left a y
    have hm2 : y ≤ max a y := Int.le_max_right a y
    refine ⟨Int.le_trans hm1 h1, fun x hx => ?_, ?_⟩
    · rcases List.mem_cons.1 hx with rfl | hx
      · exact Int.le_trans hm2 h1
      · exact h2 x hx
    · rcases h3 with h3 | h3
      · rw [h3]
        rcases Int.le_total a y with h | h
        · rw [Int.max_eq_right h]; exact .inr (by simp)
        · rw [Int.max_eq_left h]; exact .inl rfl
      · exact .inr (by simp [h3])

theorem winGo_law : ∀ (hs : List (List Int)) (k : Nat) (out : List Nat) (m : Int),
    winGo k hs (out, m) = ((if (hs.map valueR).foldl max m = m then out else []) ++ idxV ((hs.map valueR).foldl max m) k (hs.map valueR), (hs.map valueR).foldl max m)
  | [], k, out, m => by simp [winGo, idxV]
  | h :: hs, k, out, m => by
    rw [winGo, winStep]
    simp only [List.map_cons, List.foldl_cons, idxV]
    obtain ⟨v, hv⟩ : ∃ v, valueR h = v := ⟨_, rfl⟩
    rw [hv]
    by_cases h1 : m < v
    · rw [if_pos h1, winGo_law hs (k + 1), Int.max_eq_right (by omega)]
      obtain ⟨g1, _, _⟩ := foldl_max (hs.map valueR) v
      rw [if_neg (show ¬ (hs.map valueR).foldl max v = m by omega)]
      simp only [List.nil_append]
      congr 2
      by_cases e : (hs.map valueR).foldl max v = v
      · rw [if_pos e, if_pos e.symm]
      · rw [if_neg e, if_neg (fun h => e h.symm)]
    · rw [if_neg h1]
      by_cases h2 : v = m
      · subst h2
        rw [if_pos rfl, winGo_law hs (k + 1), Int.max_self]
        by_cases e : (hs.map valueR).foldl max v = v
        · rw [if_pos e, if_pos e, if_pos e.symm]; simp
        · rw [if_neg e, if_neg e, if_neg (fun h => e h.symm)]; simp
      · rw [if_neg h2, winGo_law hs (k + 1), Int.max_eq_left (by omega)]
        obtain ⟨g1, _, _⟩ := foldl_max (hs.map valueR) m
        rw [if_neg (show ¬ v = (hs.map valueR).foldl max m by omega)]
        simp

theorem outV_idx (all : List Int) (M : Int) (h1 : ∀ x ∈ all, x ≤ M) (h2 : M ∈ all ∨ all = []) : ∀ (t : List Int) (k : Nat), (∀ x ∈ t, x ∈ all) → outV all k t = idxV M k t
  | [], k, _ => rfl
  | v :: t, k, hs => by
    rw [outV, idxV, outV_idx all M h1 h2 t (k + 1) (fun x hx => hs x (by simp [hx]))]
    congr 1
    have hv := hs v (by simp)
    have hvM := h1 v hv
    rcases h2 with h2 | h2
    · by_cases e : v = M
      · rw [if_neg, if_pos e]
        intro ha
        obtain ⟨x, hx, hlt⟩ := List.any_eq_true.1 ha
        have := h1 x hx
        simp at hlt
        omega
      · rw [if_neg e, if_pos]
        exact List.any_eq_true.2 ⟨M, h2, by simp; omega⟩
    · rw [h2] at hv; cases hv

theorem value_ge {xs : List Int} (h : HandOk xs) : 0 ≤ valueR xs := by
  obtain ⟨g1, g2, _⟩ := hand_law h
  have hk : ∀ (l : List Int) (n : Int), 0 ≤ n → (∀ d ∈ l, 0 ≤ d) → 0 ≤ valF n l := by
    intro l
    induction l with
    | nil => intro n hn _; exact hn
    | cons d l ih =>
      intro n hn hd
      have := hd d (by simp)
      exact ih (13 * n + d) (by omega) (fun x hx => hd x (by simp [hx]))
  exact hk _ _ g1.lo (fun d hd => (g1.rng d hd).1)

theorem winF_law {hs : List (List Int)} (h : ∀ x ∈ hs, handErr x = 0) : winF hs = outV (hs.map valueR) 0 (hs.map valueR) := by
  rw [winF, winGo_law]
  simp only [ite_self, List.nil_append]
  obtain ⟨g1, g2, g3⟩ := foldl_max (hs.map valueR) (-1)
  refine (outV_idx _ _ g2 ?_ _ 0 (fun x hx => hx)).symm
  rcases g3 with g3 | g3
  · right
    cases hs with
    | nil => rfl
    | cons x t =>
      exfalso
      have := g2 (valueR x) (by simp)
      have := value_ge (handOk (h x (by simp)))
      omega
  · exact .inl g3

theorem firstErr_snoc : ∀ (l : List (List Int)) (x : List Int), firstErr (l ++ [x]) = if firstErr l = 0 then handErr x else firstErr l
  | [], x => by
    simp only [List.nil_append, firstErr, if_true]
    split
    · rename_i h; exact h.symm
    · rfl
  | h :: t, x => by
    by_cases h0 : handErr h = 0
    · have e1 : firstErr (h :: t) = firstErr t := by rw [firstErr, if_pos h0]
      have e2 : firstErr (h :: (t ++ [x])) = firstErr (t ++ [x]) := by rw [firstErr, if_pos h0]
      rw [List.cons_append, e2, e1, firstErr_snoc t x]
    · have e1 : firstErr (h :: t) = handErr h := by rw [firstErr, if_neg h0]
      have e2 : firstErr (h :: (t ++ [x])) = handErr h := by rw [firstErr, if_neg h0]
      rw [List.cons_append, e2, e1, if_neg h0]
end Go.Proofs.Ytllhgkacbpgemaa
