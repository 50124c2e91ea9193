/- the law RegretSums -/
import Derived.Test.YtjnaecicdaiimaaGreatDoorRgQ
namespace Go.Proofs.YtjnaecicdaiimaaGreatDoor
open Go.RowKit
set_option linter.unusedVariables false

theorem row_cells {w : World} {b o n c : Nat} {m : List (List ByteArray)} (hv : Rows Value.string w (.slice (some ⟨b, o, none⟩) n c) m) {x : Nat} {lx : List ByteArray} (h1 : m[x]? = some lx) :
    ∃ ao cc, ∀ W, Ext w W → W.cell? ⟨b, o + x, none⟩ = some (.slice ao lx.length cc) ∧ ∀ (y : Nat) s, lx[y]? = some s → ∃ bb ob, ao = some ⟨bb, ob, none⟩ ∧ W.cell? ⟨bb, ob + y, none⟩ = some (.string s) := by
  obtain ⟨us, hr, hul, hel⟩ := hv
  obtain ⟨ao, c2, e, _, hlen, _, hc⟩ := hr
  have hx := (List.getElem?_eq_some_iff.1 h1).1
  have hu : us[x]? = some (us[x]'(by omega)) := List.getElem?_eq_getElem (by omega)
  obtain ⟨b2, o2, eb, hcell⟩ := hc x _ hu
  rw [eb] at e
  simp only [Value.slice.injEq, Option.some.injEq, Addr.mk.injEq, and_true] at e
  obtain ⟨⟨rfl, rfl⟩, _, _⟩ := e
  obtain ⟨ao3, c3, e3, _, hc3⟩ := (hel x _ lx hu h1).open
  refine ⟨ao3, c3, fun W hW => ⟨by rw [hW.cell hcell, e3], fun y s h2 => ?_⟩⟩
  exact hc3.ext hW y _ (by rw [List.getElem?_map, h2]; rfl)
theorem vast_rows {n : Nat} {m : List (List ByteArray)} (h : vastB n [m] = false) : m.length ≤ n ∧ ∀ l ∈ m, l.length ≤ n ∧ ∀ s ∈ l, s.size ≤ 12 := by
  unfold vastB at h
  rw [List.any_cons, List.any_nil, Bool.or_false] at h
  unfold vastM at h
  rw [Bool.or_eq_false_iff, decide_eq_false_iff_not] at h
  refine ⟨by omega, fun l hl => ?_⟩
  have h2 := List.any_eq_false.1 h.2 l hl
  have h2 : vastR n l = false := by simpa using h2
  unfold vastR at h2
  rw [Bool.or_eq_false_iff, decide_eq_false_iff_not] at h2
  refine ⟨by omega, fun s hs => ?_⟩
  have h3 := List.any_eq_false.1 h2.2 s hs
  simp only [decide_eq_true_eq] at h3
  omega
theorem colQ_getD {M : List (List Rat)} {x k : Nat} (h : x < M.length) : (colQ M k).getD x 0 = (M.getD x []).getD k 0 := by
  unfold colQ
  rw [List.getD_eq_getElem?_getD, List.getD_eq_getElem?_getD (l := M), List.getElem?_map, List.getElem?_eq_getElem h]
  rfl
def rowF (M : List (List Rat)) (i : Nat) (p : Int × Int) : Rat := (M.getD i []).getD p.2.toNat 0 - atQ M p
def colF (M : List (List Rat)) (k : Nat) (p : Int × Int) : Rat := atQ M p - (M.getD p.1.toNat []).getD k 0
theorem bad_lt {n k : Nat} {p : Int × Int} (h : badP n k p = false) : p.1.toNat < n ∧ p.2.toNat < k := by
  unfold badP at h
  rw [decide_eq_false_iff_not] at h
  omega
theorem regRows_get {m : List (List ByteArray)} {ps : List (Int × Int)} (hr : ∀ l ∈ m, l.length = wideL m) (hb : ∀ p ∈ ps, badP m.length (wideL m) p = false) {i : Nat} (hi : i < m.length) : (regRows m ps)[i]? = some (sumP (rowF (numM m) i) ps 0) := by
  have hM : (numM m)[i]? = some ((numM m).getD i []) := by
    have h2 : i < (numM m).length := by unfold numM; rw [List.length_map]; exact hi
    rw [List.getD_eq_getElem?_getD, List.getElem?_eq_getElem h2]; rfl
  have hl := numM_len hr _ (List.mem_of_getElem? hM)
  unfold regRows rowsS gotQ
  rw [List.getElem?_map, List.getElem?_map, hM]
  show some (dotQ _ _ - _) = _
  rw [dot_cnt _ _ _ _ (fun p hp => by have := bad_lt (hb p hp); rw [hl]; exact ⟨this.2, this.2⟩)]
  rw [← sumP_sub (fun p => ((numM m).getD i []).getD p.2.toNat 0) (atQ (numM m)) (rowF (numM m) i) (fun p => rfl)]
  rw [show ((0 : Rat) - 0) = 0 by grind]
theorem regCols_get {m : List (List ByteArray)} {ps : List (Int × Int)} (hb : ∀ p ∈ ps, badP m.length (wideL m) p = false) {k : Nat} (hk : k < wideL m) : (regCols m ps)[k]? = some (sumP (colF (numM m) k) ps 0) := by
  have hM : (colsQ (numM m) (wideL m))[k]? = some (colQ (numM m) k) := by
    unfold colsQ
    rw [List.getElem?_map, List.getElem?_range hk]; rfl
  have hn : (numM m).length = m.length := by unfold numM; rw [List.length_map]
  have hl : (colQ (numM m) k).length = m.length := by unfold colQ; rw [List.length_map, hn]
  unfold regCols colsS gotQ
  rw [List.getElem?_map, List.getElem?_map, hM]
  show some (_ - dotQ _ _) = _
  rw [dot_cnt _ _ _ _ (fun p hp => by have := bad_lt (hb p hp); rw [hl]; exact ⟨this.1, this.1⟩)]
  rw [← sumP_sub (atQ (numM m)) (fun p => (colQ (numM m) k).getD p.1.toNat 0) (fun p => atQ (numM m) p - (colQ (numM m) k).getD p.1.toNat 0) (fun p => rfl)]
  rw [show ((0 : Rat) - 0) = 0 by grind]
  rw [sumP_congr (f := fun p => atQ (numM m) p - (colQ (numM m) k).getD p.1.toNat 0) (g := colF (numM m) k) ps 0 fun p hp => ?_]
  show _ - _ = _ - _
  rw [colQ_getD (by rw [hn]; exact (bad_lt (hb p hp)).1)]
theorem numM_at {m : List (List ByteArray)} {x y : Nat} {l : List ByteArray} {s : ByteArray} (h : m[x]? = some l) (h2 : l[y]? = some s) : ((numM m).getD x []).getD y 0 = ratOf s := by
  have := atQ_numM (x := x) (y := y) h h2
  exact this
end Go.Proofs.YtjnaecicdaiimaaGreatDoor
