/- arguments that are read: slices of ints -/
import Derived.Test.YtllhgkacbpgemaaRows
import Derived.Test.YtllhgkacbpgemaaLib
import Derived.ProofKit
import Derived.OpenShut
import Derived.SizedLaws
namespace Go.Proofs.Ytllhgkacbpgemaa
open Go.ChangeShapes Go.WideShapes Go.ChangeAt Go.RowKit

theorem prog_own : ownKnob Try.prog.godebug = none := by kernel_rfl
theorem prog_laid : laidOutB Try.prog = true := by kernel_rfl

set_option maxRecDepth 100000 in
theorem ints_in {H : Type} {enc : TypeId × Value → H} {W : World} {base : Nat} {v : Value} {d : DataW H} {p : List MemPlace} (hv : Value.okWide Try.prog W .any base 22 v)
    (h : DataW.Trod enc Try.prog W 0 (fun _ => true) true 22 v d p) (hs : ∀ elems spare, d = .slice elems spare → (elems.length + spare.length) * Try.prog.bytesOf 3 ≤ reachBytes) :
    ∃ xs : List Int, Ints W v xs ∧ (∀ x ∈ xs, (Lit.int .i64 x).wf = true) := by
  obtain ⟨a0, len, cap, rfl⟩ := okWide_slice Try.underlying22 hv
  obtain ⟨fuel, hf⟩ := h
  rcases open_ints Try.underlying22 Try.underlying3 (by kernel_rfl) hf with ⟨hcs, hx⟩ | ⟨a, len', cap', zs, hcs, _, hl, hm, hz, hx, hcell, hwz⟩
  · simp [Value.cells] at hcs
    obtain ⟨rfl, rfl, rfl⟩ := hcs
    exact ⟨[], Row.nil W, fun x hx => by cases hx⟩
  · simp [Value.cells] at hcs
    obtain ⟨rfl, rfl, rfl⟩ := hcs
    simp only [Prod.mk.injEq] at hx
    obtain ⟨hd, _⟩ := hx
    simp only [if_true] at hz
    have hb := hs _ _ hd
    have hby : Try.prog.bytesOf 3 = 8 := by kernel_rfl
    rw [hby] at hb
    simp only [lits, List.length_map, List.length_take, List.length_drop, reachBytes] at hb
    refine ⟨zs.take len, ⟨some a, cap, ?_, fun e => (by cases e), ?_, fun _ e => (by cases e), fun i u hu => ?_⟩, fun x hx => hwz x (List.mem_of_mem_take hx)⟩
    · simp only [List.length_map, List.length_take]; rw [Nat.min_eq_left (by omega)]
    · simp only [List.length_map, List.length_take]; omega
    · simp only [List.getElem?_map, List.getElem?_take, Option.map_eq_some_iff] at hu
      obtain ⟨x, hx, rfl⟩ := hu
      split at hx
      · rename_i hi
        have hlt : i < zs.length := by omega
        obtain ⟨b, off, spot⟩ := a
        have hc0 := hcell i hlt
        have hspot : spot = none := by
          have := World.cell?_spot (hcell 0 (by omega))
          simpa [Addr.add] using this
        subst hspot
        refine ⟨b, off, rfl, ?_⟩
        rw [Addr.add_lit] at hc0
        rw [hc0, List.getD_eq_getElem?_getD, hx]; rfl
      · cases hx
end Go.Proofs.Ytllhgkacbpgemaa
