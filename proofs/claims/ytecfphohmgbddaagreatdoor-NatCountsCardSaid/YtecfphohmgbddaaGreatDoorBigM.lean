/- plain: the guess of one digit of a long division, step by step -/
import Derived.Test.YtecfphohmgbddaaGreatDoorBigK
namespace Go.Proofs.YtecfphohmgbddaaGreatDoor
set_option linter.unusedVariables false

/-- the guess g with its rest r; q is the true digit -/
def GI (top v1 q g r : Nat) : Prop := r + g * v1 = top ∧ q ≤ g ∧ g < 4294967296

theorem GI.start {us vs : List Nat} {n q : Nat} (hu : Dg us) (hv : Dg vs) (hlu : us.length = n + 3) (hlv : vs.length = n + 2) (hq : val us / val vs = q) (hV : 0 < val vs) (hq9 : q < 4294967296)
    (hv1 : 1 ≤ vs.getD (n + 1) 0) {top : Nat} (ht : us.getD (n + 2) 0 * 4294967296 + us.getD (n + 1) 0 = top) :
    GI top (vs.getD (n + 1) 0) q (min (top / vs.getD (n + 1) 0) 4294967295) (top - min (top / vs.getD (n + 1) 0) 4294967295 * vs.getD (n + 1) 0) := by
  obtain ⟨h1, _⟩ := knuth_guess hu hv hlu hlv hq hV
  have hu0 : us.getD n 0 < 4294967296 := by
    rw [List.getD_eq_getElem?_getD, List.getElem?_eq_getElem (by omega)]
    exact hu _ (List.getElem_mem ..)
  generalize us.getD n 0 = u0 at *
  generalize us.getD (n + 1) 0 = u1 at *
  generalize us.getD (n + 2) 0 = u2 at *
  generalize vs.getD n 0 = v0 at *
  generalize vs.getD (n + 1) 0 = v1 at *
  have h2 : q * v1 ≤ top := by
    rcases Nat.lt_or_ge top (q * v1) with h | h
    · exfalso
      rw [Nat.mul_add, Nat.mul_left_comm q] at h1
      have : 4294967296 * (top + 1) ≤ 4294967296 * (q * v1) := Nat.mul_le_mul_left _ h
      omega
    · exact h
  have h3 : q ≤ top / v1 := (Nat.le_div_iff_mul_le hv1).2 h2
  have h4 : min (top / v1) 4294967295 * v1 ≤ top := Nat.le_trans (Nat.mul_le_mul_right v1 (Nat.min_le_left _ _)) (Nat.div_mul_le_self top v1)
  exact ⟨by omega, by omega, by omega⟩

theorem GI.step {us vs : List Nat} {n q g r : Nat} (hu : Dg us) (hv : Dg vs) (hlu : us.length = n + 3) (hlv : vs.length = n + 2) (hq : val us / val vs = q) (hV : 0 < val vs)
    {top : Nat} (ht : us.getD (n + 2) 0 * 4294967296 + us.getD (n + 1) 0 = top) (h : GI top (vs.getD (n + 1) 0) q g r) (hc : r * 4294967296 + us.getD n 0 < g * vs.getD n 0) :
    1 ≤ g ∧ GI top (vs.getD (n + 1) 0) q (g - 1) (r + vs.getD (n + 1) 0) := by
  obtain ⟨h1, _⟩ := knuth_guess hu hv hlu hlv hq hV
  obtain ⟨g1, g2, g3⟩ := h
  generalize us.getD n 0 = u0 at *
  generalize us.getD (n + 1) 0 = u1 at *
  generalize us.getD (n + 2) 0 = u2 at *
  generalize vs.getD n 0 = v0 at *
  generalize vs.getD (n + 1) 0 = v1 at *
  have hlt : q < g := by
    rcases Nat.lt_or_ge q g with h | h
    · exact h
    · exfalso
      have hqg : q = g := by omega
      subst hqg
      rw [Nat.mul_add, Nat.mul_left_comm q] at h1
      omega
  obtain ⟨m, rfl⟩ : ∃ m, g = m + 1 := ⟨g - 1, by omega⟩
  rw [Nat.add_mul] at g1
  refine ⟨by omega, ?_, by omega, by omega⟩
  rw [Nat.add_sub_cancel]
  omega

theorem GI.stop {us vs : List Nat} {n q g r : Nat} (hu : Dg us) (hv : Dg vs) (hlu : us.length = n + 3) (hlv : vs.length = n + 2) (hq : val us / val vs = q) (hV : 0 < val vs)
    (hv1 : 1 ≤ vs.getD (n + 1) 0) {top : Nat} (ht : us.getD (n + 2) 0 * 4294967296 + us.getD (n + 1) 0 = top) (h : GI top (vs.getD (n + 1) 0) q g r) (hc : 4294967296 ≤ r ∨ g * vs.getD n 0 ≤ r * 4294967296 + us.getD n 0) :
    g ≤ q + 1 := by
  obtain ⟨_, h2⟩ := knuth_guess hu hv hlu hlv hq hV
  obtain ⟨g1, g2, g3⟩ := h
  refine h2 g ?_ g3 hv1
  have hv0 : vs.getD n 0 < 4294967296 := by
    rw [List.getD_eq_getElem?_getD, List.getElem?_eq_getElem (by omega)]
    exact hv _ (List.getElem_mem ..)
  generalize us.getD n 0 = u0 at *
  generalize us.getD (n + 1) 0 = u1 at *
  generalize us.getD (n + 2) 0 = u2 at *
  generalize vs.getD n 0 = v0 at *
  generalize vs.getD (n + 1) 0 = v1 at *
  rw [Nat.mul_add, Nat.mul_left_comm g]
  have hgv : g * v0 ≤ r * 4294967296 + u0 := by
    rcases hc with h | h
    · have : g * v0 ≤ 4294967295 * 4294967295 := Nat.mul_le_mul (by omega) (by omega)
      have : 4294967296 * 4294967296 ≤ r * 4294967296 := Nat.mul_le_mul_right _ h
      omega
    · exact h
  omega

/-- one step of multiply and subtract, in the numbers that the walk has -/
theorem mulSub_step {g u : Nat} {us vs : List Nat} {c b v s lo hh bb y : Nat} (hv : vs.headD 0 = v) (hs : c + g * v = s) (hlo : s % 4294967296 = lo) (hhh : s / 4294967296 = hh)
    (hbb : bor u lo b = bb) (hy : (u + 4294967296 - b - lo) % 4294967296 = y) :
    mulSub g (u :: us) vs c b = (y :: (mulSub g us vs.tail hh bb).1, (mulSub g us vs.tail hh bb).2) := by
  rw [mulSub]
  simp only [hv, hs, hlo, hhh, hbb, hy]

theorem addN_step {u : Nat} {us vs : List Nat} {c v s lo hh : Nat} (hv : vs.headD 0 = v) (hs : c + u + v = s) (hlo : s % 4294967296 = lo) (hhh : s / 4294967296 = hh) :
    addN (u :: us) vs c = (lo :: (addN us vs.tail hh).1, (addN us vs.tail hh).2) := by
  rw [addN]
  simp only [hv, hs, hlo, hhh]

theorem tail_drop {α : Type} (l : List α) (i : Nat) : (l.drop i).tail = l.drop (i + 1) := by rw [List.tail_drop]
theorem headD_drop (l : List Nat) (i : Nat) : (l.drop i).headD 0 = l.getD i 0 := by
  rw [List.headD_eq_head?_getD, List.head?_drop, List.getD_eq_getElem?_getD]
end Go.Proofs.YtecfphohmgbddaaGreatDoor
