/- texts merged: InT InP -/
import Derived.Test.YtnfmknjhkpgppaaGreatDoorInC
import Derived.Test.YtnfmknjhkpgppaaGreatDoorSlB
import Derived.Test.YtnfmknjhkpgppaaGreatDoorRgY
/- arguments that are read: lists and rows of strings -/
namespace Go.Proofs.YtnfmknjhkpgppaaGreatDoor
open Go.ChangeShapes Go.WideShapes Go.ChangeAt Go.RowKit Go.Deep

theorem strs_elem {H : Type} {enc : TypeId × Value → H} {P : Program} {W : World} {t e : TypeId} (ht : P.underlying t = some (.slice e)) (he : P.underlying e = some .string) (ce : P.cellsOf e = 1) (hB : P.bytesOf e = 16)
    {n : Nat} {v : Value} {y : DataW H × List MemPlace} (h : DataW.trod enc P W 0 (fun _ => true) true n t [v] = some y) (hs : Sized P t y.1) :
    ∃ xs : List ByteArray, Strs W v xs ∧ xs.length ≤ 17592186044416 ∧ (∀ s ∈ xs, s.size ≤ reachBytes) := by
  obtain ⟨us, xs, h1, h2, h3, h4⟩ := slice_in (Rel := fun u x => u = .string x ∧ x.size ≤ reachBytes) ht ce hB (by omega) (fun n u y hy hz => by
    obtain ⟨s, h5, h6, _⟩ := DataW.trod_string he hy
    refine ⟨s, by simpa using h5, ?_⟩
    rw [h6] at hz
    have := Sized.string hz
    simpa using this) h hs
  have hu := rel_map h2 (fun i u x a b => (h4 i u x a b).1)
  subst hu
  refine ⟨xs, h1, ?_, fun s hx => ?_⟩
  · simp only [List.length_map] at h3; unfold reachBytes at h3; omega
  · obtain ⟨i, hi, rfl⟩ := List.mem_iff_getElem.1 hx
    exact (h4 i _ _ (by rw [List.getElem?_map, List.getElem?_eq_getElem hi]; rfl) (List.getElem?_eq_getElem hi)).2

set_option maxRecDepth 100000 in
theorem vec_in {H : Type} {enc : TypeId × Value → H} {W : World} {base : Nat} {v : Value} {d : DataW H} {p : List MemPlace} (hv : Value.okWide Tryz.prog W .any base 25 v)
    (h : DataW.Trod enc Tryz.prog W 0 (fun _ => true) true 25 v d p) (hs : Sized Tryz.prog 25 d) :
    ∃ xs : List ByteArray, Strs W v xs ∧ xs.length ≤ 17592186044416 ∧ (∀ s ∈ xs, s.size ≤ reachBytes) := by
  obtain ⟨n, hn⟩ := trod_slice_arg Tryz.underlying25 hv h
  exact strs_elem Tryz.underlying25 Tryz.underlying31 (by kernel_rfl) (by kernel_rfl) hn hs

set_option maxRecDepth 100000 in
theorem mat_in {H : Type} {enc : TypeId × Value → H} {W : World} {base : Nat} {v : Value} {d : DataW H} {p : List MemPlace} (hv : Value.okWide Tryz.prog W .any base 23 v)
    (h : DataW.Trod enc Tryz.prog W 0 (fun _ => true) true 23 v d p) (hs : Sized Tryz.prog 23 d) :
    ∃ xss : List (List ByteArray), Rows Value.string W v xss ∧ xss.length ≤ 17592186044416 ∧ (∀ xs ∈ xss, xs.length ≤ 17592186044416 ∧ ∀ s ∈ xs, s.size ≤ reachBytes) := by
  obtain ⟨n, hn⟩ := trod_slice_arg Tryz.underlying23 hv h
  obtain ⟨us, xss, h1, h2, h3, h4⟩ := slice_in (B := 24) (Rel := fun u xs => Strs W u xs ∧ xs.length ≤ 17592186044416 ∧ (∀ s ∈ xs, s.size ≤ reachBytes)) Tryz.underlying23 (by kernel_rfl) (by kernel_rfl) (by omega)
    (fun n u y hy hz => strs_elem Tryz.underlying25 Tryz.underlying31 (by kernel_rfl) (by kernel_rfl) hy hz) hn hs
  refine ⟨xss, ⟨us, h1, h2, fun i u xs a b => (h4 i u xs a b).1⟩, by unfold reachBytes at h3; omega, fun xs hx => ?_⟩
  obtain ⟨i, hi, rfl⟩ := List.mem_iff_getElem.1 hx
  exact (h4 i _ _ (List.getElem?_eq_getElem (show i < us.length by omega)) (List.getElem?_eq_getElem hi)).2
end Go.Proofs.YtnfmknjhkpgppaaGreatDoor
/- arguments that are read: slices of pairs of ints -/
namespace Go.Proofs.YtnfmknjhkpgppaaGreatDoor
open Go.ChangeShapes Go.WideShapes Go.ChangeAt Go.RowKit Go.Deep

end Go.Proofs.YtnfmknjhkpgppaaGreatDoor
