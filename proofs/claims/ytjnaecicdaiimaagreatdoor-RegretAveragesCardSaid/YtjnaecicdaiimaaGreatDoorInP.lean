/- arguments that are read: slices of pairs of ints -/
import Derived.Test.YtjnaecicdaiimaaGreatDoorInC
import Derived.Test.YtjnaecicdaiimaaGreatDoorRgY
namespace Go.Proofs.YtjnaecicdaiimaaGreatDoor
open Go.ChangeShapes Go.WideShapes Go.ChangeAt Go.RowKit Go.Deep

set_option maxRecDepth 100000 in
theorem prs_in {H : Type} {enc : TypeId × Value → H} {W : World} {base : Nat} {v : Value} {d : DataW H} {p : List MemPlace} (hv : Value.okWide Tryz.prog W .any base 26 v)
    (h : DataW.Trod enc Tryz.prog W 0 (fun _ => true) true 26 v d p) (hs : Sized Tryz.prog 26 d) : ∃ ps : List (Int × Int), Prs W v ps := by
  obtain ⟨n, hn⟩ := trod_slice_arg Tryz.underlying26 hv h
  have hC : Tryz.prog.cellsOf 32 = 2 := by kernel_rfl
  have hC1 : Tryz.prog.cellsOf 3 = 1 := by kernel_rfl
  have hB : Tryz.prog.bytesOf 32 = 16 := by kernel_rfl
  rcases open_slice Tryz.underlying26 hn with ⟨hcs, hx⟩ | ⟨a, len, cap, m, n, D, Pl, hcs, _, hl, hm, hmm, hx0, hx⟩
  · simp at hcs
    subst hcs
    exact ⟨[], none, 0, rfl, by simp, fun i q hq => by simp at hq⟩
  · simp only [List.cons.injEq, and_true] at hcs
    subst hcs
    simp only [Prod.mk.injEq] at hx0
    obtain ⟨rfl, rfl⟩ := hx0
    obtain ⟨h1, h2⟩ := Sized.slice Tryz.underlying26 hs
    rw [hB] at h1
    have hlm : len ≤ m := by rw [hmm]; simp [hl]
    simp only [List.length_map, List.length_range] at h1
    have hlen : len * 16 ≤ reachBytes := Nat.le_trans (Nat.mul_le_mul_right _ (by omega)) h1
    obtain ⟨ps, hpl, hps⟩ := list_of (fun i (q : Int × Int) => W.cell? (a.add (i * 2)) = some (.int .i64 q.1) ∧ W.cell? (a.add (i * 2 + 1)) = some (.int .i64 q.2)) len (fun i hi => by
      obtain ⟨cs', hc, htr⟩ := hx i (by omega)
      rw [hC] at hc
      obtain ⟨xs, m', _, _, hcl, hxl, hf⟩ := DataW.trod_array Tryz.underlying32 htr
      obtain ⟨_, hcl2, hat⟩ := World.cells?_some hc
      have h0 := hf 0 (by omega)
      have h3 := hf 1 (by omega)
      rw [hC1] at h0 h3
      rw [show xs[0]? = some (xs[0]'(by omega)) from List.getElem?_eq_getElem (by omega)] at h0
      rw [show xs[1]? = some (xs[1]'(by omega)) from List.getElem?_eq_getElem (by omega)] at h3
      obtain ⟨x, e0, _, _⟩ := DataW.trod_int Tryz.underlying3 h0
      obtain ⟨y, e1, _, _⟩ := DataW.trod_int Tryz.underlying3 h3
      match cs', hcl2 with
      | [c0, c1], _ =>
        simp at e0 e1
        subst e0
        subst e1
        have k0 := hat 0 (by omega)
        have k1 := hat 1 (by omega)
        rw [add_add] at k0 k1
        exact ⟨(x, y), k0, k1⟩)
    refine ⟨ps, some a, cap, by rw [hpl], by unfold reachBytes at hlen; omega, fun i q hq => ?_⟩
    obtain ⟨k0, k1⟩ := hps i q hq
    obtain ⟨b, off, spot⟩ := a
    have hspot : spot = none := by
      have hi := (List.getElem?_eq_some_iff.1 hq).1
      obtain ⟨z0, _⟩ := hps 0 (ps[0]'(by omega)) (List.getElem?_eq_getElem (by omega))
      have := World.cell?_spot z0
      simpa [Addr.add] using this
    subst hspot
    rw [Addr.add_lit] at k0 k1
    exact ⟨b, off, rfl, k0, by rw [Nat.add_assoc]; exact k1⟩
end Go.Proofs.YtjnaecicdaiimaaGreatDoor
