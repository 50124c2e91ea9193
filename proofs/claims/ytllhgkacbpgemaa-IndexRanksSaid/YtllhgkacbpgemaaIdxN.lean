/- the plain law of the next placement -/
import Derived.Test.YtllhgkacbpgemaaIdx5
namespace Go.Proofs.Ytllhgkacbpgemaa
open Go.RowKit

theorem set_perm (l : List Nat) (k c d : Nat) (h : l[k]? = some d) : (d :: l.set k c).Perm (c :: l) := by
  induction l generalizing k with
  | nil => simp at h
  | cons x l ih =>
    cases k with
    | zero =>
      simp at h; subst h
      simp only [List.set_cons_zero]
      exact List.Perm.swap _ _ _
    | succ k =>
      simp only [List.getElem?_cons_succ] at h
      simp only [List.set_cons_succ]
      exact (List.Perm.swap x d _).trans (((ih k h).cons x).trans (List.Perm.swap c x l))

theorem nextP_rank (ns : List Nat) (hf : ∀ x ∈ ns, x < 7) (ys : List Int) (h : NextP (ofN ns) ys) :
    ∃ ms, ys = ofN ms ∧ Has (cntN 7 ns) ms ∧ rankF (cntN 7 ns) ms = rankF (cntN 7 ns) ns + 1 := by
  obtain ⟨ps, c, cs, k, d, h1, h2, h3, h4, h5, h6⟩ := h
  obtain ⟨pn, rn, e1, e2, e3⟩ := List.map_eq_append_iff.1 h1
  obtain ⟨cn, csn, e4, e5, e6⟩ := List.map_eq_cons_iff.1 e3
  subst e4
  subst e1 e2 e5 e6
  simp only [List.getElem?_map, Option.map_eq_some_iff] at h3
  obtain ⟨dn, hd, rfl⟩ := h3
  have hcd : cn < dn := by omega
  have hpw : csn.Pairwise (· ≥ ·) := by
    rw [List.pairwise_map] at h2
    exact h2.imp (fun h => by omega)
  have hgt : ∀ t e, k < t → csn[t]? = some e → e ≤ cn := by
    intro t e ht he
    have := h5 t e ht (by simp [he])
    omega
  have hkl := (List.getElem?_eq_some_iff.1 hd).1
  have hdk := (List.getElem?_eq_some_iff.1 hd).2
  have hpe := List.pairwise_iff_getElem.1 hpw
  have hset : (csn.set k cn).Pairwise (· ≥ ·) := by
    refine List.pairwise_iff_getElem.2 fun i j hi hj hij => ?_
    simp only [List.length_set] at hi hj
    simp only [List.getElem_set]
    by_cases e1 : k = i
    · rw [if_pos e1, if_neg (by omega)]
      exact hgt j _ (by omega) (List.getElem?_eq_getElem hj)
    · rw [if_neg e1]
      by_cases e2 : k = j
      · rw [if_pos e2]
        have := hpe i k hi hkl (by omega)
        rw [hdk] at this
        omega
      · rw [if_neg e2]
        exact hpe i j hi hj hij
  have hcm : ∀ x ∈ cn :: csn, x < 7 := fun x hx => hf x (by simp only [List.mem_append]; exact .inr hx)
  have hperm : (dn :: (csn.set k cn).reverse).Perm (cn :: csn) := ((List.reverse_perm _).cons dn).trans (set_perm csn k cn dn hd)
  have hstep := rank_step 7 cn dn csn (csn.set k cn).reverse hcm hpw hcd (List.mem_of_getElem? hd) (by
    intro x hx
    obtain ⟨t, ht, rfl⟩ := List.mem_iff_getElem.1 hx
    rcases Nat.lt_trichotomy t k with h | h | h
    · right
      have := hpe t k ht hkl h
      rw [hdk] at this; exact this
    · subst h; right; omega
    · left; exact hgt t _ h (List.getElem?_eq_getElem ht)) (by
    rw [List.pairwise_reverse]; exact hset) hperm
  refine ⟨pn ++ dn :: (csn.set k cn).reverse, ?_, ?_, ?_⟩
  · rw [h6]; simp [ofN, List.map_set]
  · have hp2 : (pn ++ dn :: (csn.set k cn).reverse).Perm (pn ++ cn :: csn) := hperm.append_left pn
    have e : cntN 7 (pn ++ cn :: csn) = cntN 7 (pn ++ dn :: (csn.set k cn).reverse) := by
      unfold cntN
      exact List.map_congr_left fun k _ => (hp2.count_eq k).symm
    rw [e]
    exact has_cnt 7 _ (fun x hx => hf x (hp2.subset hx))
  · exact rank_prefix 7 pn (cn :: csn) (dn :: (csn.set k cn).reverse) (fun x hx => hf x (by simp [hx])) hstep
end Go.Proofs.Ytllhgkacbpgemaa
