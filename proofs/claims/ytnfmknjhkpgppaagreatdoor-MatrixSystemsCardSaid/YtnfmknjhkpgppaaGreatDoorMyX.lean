/- texts merged: MyA MyB MyC MyD -/
import Derived.Test.YtnfmknjhkpgppaaGreatDoorMxSX
import Derived.Test.YtnfmknjhkpgppaaGreatDoorWgt
import Derived.Test.YtnfmknjhkpgppaaGreatDoorRgBQ
import Derived.Test.YtnfmknjhkpgppaaGreatDoorMxY
/- the law MatrixChecks -/
namespace Go.Proofs.YtnfmknjhkpgppaaGreatDoor
open Go.RowKit
set_option linter.unusedVariables false

end Go.Proofs.YtnfmknjhkpgppaaGreatDoor
/- the law MatrixDots -/
namespace Go.Proofs.YtnfmknjhkpgppaaGreatDoor
open Go.RowKit
set_option linter.unusedVariables false

theorem firstF_vec (p1 p2 : Int) : firstF [p1, p2] = if p1 ≠ 0 then p1 else p2 := by
  unfold firstF
  by_cases h : p1 = 0
  · rw [if_neg (by simpa using h), if_neg (by simpa using h), firstF]
    by_cases h2 : p2 = 0
    · rw [if_neg (by simpa using h2), firstF, h2]
    · rw [if_pos h2]
  · rw [if_pos h, if_pos h]
theorem vast_all {n : Nat} {ms : List (List (List ByteArray))} (h : vastB n ms = false) : ∀ m ∈ ms, m.length ≤ n ∧ ∀ l ∈ m, l.length ≤ n ∧ ∀ s ∈ l, s.size ≤ 12 := fun m hm => by
  unfold vastB at h
  have h0 := List.any_eq_false.1 h m hm
  have h : vastM n m = false := by simpa using h0
  unfold vastM at h
  rw [Bool.or_eq_false_iff, decide_eq_false_iff_not] at h
  refine ⟨by omega, fun l hl => ?_⟩
  have h2 := List.any_eq_false.1 h.2 l hl
  have h2 : vastR n l = false := by simpa using h2
  unfold vastR at h2
  rw [Bool.or_eq_false_iff, decide_eq_false_iff_not] at h2
  refine ⟨by omega, fun s hs => ?_⟩
  have h3 := List.any_eq_false.1 h2.2 s hs
  simp only [decide_eq_true_eq] at h3
  omega
theorem texts_of {l : List ByteArray} (h : ∀ s ∈ l, RatOk s) : (l.map ratOf).map ratT = l := by
  rw [List.map_map]
  have : l.map (ratT ∘ ratOf) = l.map id := List.map_congr_left fun s hs => (text_ratT (h s hs)).symm
  rw [this, List.map_id]

end Go.Proofs.YtnfmknjhkpgppaaGreatDoor
/- the law MatrixProducts: contracts in one form -/
namespace Go.Proofs.YtnfmknjhkpgppaaGreatDoor
open Go.RowKit
set_option linter.unusedVariables false

theorem Rows.shape {w : World} {v : Value} {m : List (List ByteArray)} (h : Rows Value.string w v m) : ∃ xo xl xc, v = .slice xo xl xc := by
  obtain ⟨us, hr, _⟩ := h
  obtain ⟨ao, c, rfl, _⟩ := hr
  exact ⟨_, _, _, rfl⟩
theorem Rows.len {w : World} {xo : Option Addr} {xl xc : Nat} {m : List (List ByteArray)} (h : Rows Value.string w (.slice xo xl xc) m) : xl = m.length := by
  obtain ⟨us, hr, hl, _⟩ := h
  obtain ⟨ao, c, e, _⟩ := hr
  simp only [Value.slice.injEq] at e
  rw [e.2.1, hl]
theorem Strs.len {w : World} {xo : Option Addr} {xl xc : Nat} {m : List ByteArray} (h : Strs w (.slice xo xl xc) m) : xl = m.length := by
  obtain ⟨ao, c, e, _⟩ := h.open
  simp only [Value.slice.injEq] at e
  exact e.2.1
/-- a literal of matrices -/
theorem lit_mats (w : World) (e : TypeId) (us : List Value) (ms : List (List (List ByteArray))) (k : Nat) (hk : k = w.heap.size) (hb : us.length ≤ 17592186044416) (hl : us.length = ms.length)
    (h : ∀ (i : Nat) (u : Value) (m : List (List ByteArray)), us[i]? = some u → ms[i]? = some m → Rows Value.string w u m) :
    MatsV (w.alloc (.cells us.toArray e)) (.slice (some ⟨k, 0, none⟩) us.length us.length) ms := by
  subst hk
  have h1 := World.ownsRow_lit (base := w.heap.size) (e := e) (size := 1) w us.toArray us.length (Nat.le_refl _) (by unfold maxLen; omega) (by simp)
  exact ⟨us, by simpa using own_row h1 hb, hl, fun i u xs a b => (h i u xs a b).ext ((Ext.refl w).alloc _)⟩
theorem lit_mats2 (w : World) (e : TypeId) {u v : Value} {m n : List (List ByteArray)} (h1 : Rows Value.string w u m) (h2 : Rows Value.string w v n) (k : Nat) (hk : k = w.heap.size) : MatsV (w.alloc (.cells #[u, v] e)) (.slice (some ⟨k, 0, none⟩) 2 2) [m, n] := by
  refine lit_mats w e [u, v] [m, n] k hk (by simp) rfl fun i x xs a b => ?_
  match i, a, b with
  | 0, a, b => simp only [List.getElem?_cons_zero, Option.some.injEq] at a b; subst a; subst b; exact h1
  | 1, a, b => simp only [List.getElem?_cons_succ, List.getElem?_cons_zero, Option.some.injEq] at a b; subst a; subst b; exact h2
  | i + 2, a, b => simp at a
end Go.Proofs.YtnfmknjhkpgppaaGreatDoor
/- the law MatrixProducts: its walk -/
namespace Go.Proofs.YtnfmknjhkpgppaaGreatDoor
open Go.RowKit
set_option linter.unusedVariables false

end Go.Proofs.YtnfmknjhkpgppaaGreatDoor
