/- arguments that are read: rows of ints -/
import Derived.Test.YtllhgkacbpgemaaInC
namespace Go.Proofs.Ytllhgkacbpgemaa
open Go.ChangeShapes Go.WideShapes Go.ChangeAt Go.RowKit Go.Deep

set_option maxRecDepth 100000 in
theorem rows_in {H : Type} {enc : TypeId × Value → H} {W : World} {base : Nat} {v : Value} {d : DataW H} {p : List MemPlace} (hv : Value.okWide Try.prog W .any base 30 v)
    (h : DataW.Trod enc Try.prog W 0 (fun _ => true) true 30 v d p) (hs : Sized Try.prog 30 d) :
    ∃ xss : List (List Int), Rows (Value.int .i64) W v xss ∧ xss.length + 512 ≤ 17592186044416 ∧ (∀ xs ∈ xss, xs.length + 512 ≤ 17592186044416) ∧ (∀ xs ∈ xss, ∀ x ∈ xs, (Lit.int .i64 x).wf = true) := by
  obtain ⟨n, hn⟩ := trod_slice_arg Try.underlying30 hv h
  obtain ⟨us, xss, h1, h2, h3, h4⟩ := slice_in (B := 24) (Rel := fun u xs => Ints W u xs ∧ xs.length + 512 ≤ 17592186044416 ∧ (∀ x ∈ xs, (Lit.int .i64 x).wf = true)) Try.underlying30 (by kernel_rfl) (by kernel_rfl) (by omega)
    (fun n u y hy hz => ints_elem Try.underlying22 Try.underlying3 (by kernel_rfl) (by kernel_rfl) hy hz) hn hs
  have hat : ∀ xs ∈ xss, ∃ (i : Nat) (u : Value), us[i]? = some u ∧ xss[i]? = some xs := by
    intro xs hx
    obtain ⟨i, hi, rfl⟩ := List.mem_iff_getElem.1 hx
    exact ⟨i, us[i]'(by omega), List.getElem?_eq_getElem (by omega), List.getElem?_eq_getElem hi⟩
  refine ⟨xss, ⟨us, h1, h2, fun i u xs a b => (h4 i u xs a b).1⟩, ?_, fun xs hx => ?_, fun xs hx => ?_⟩
  · unfold reachBytes at h3; omega
  · obtain ⟨i, u, a, b⟩ := hat xs hx; exact (h4 i u xs a b).2.1
  · obtain ⟨i, u, a, b⟩ := hat xs hx; exact (h4 i u xs a b).2.2
end Go.Proofs.Ytllhgkacbpgemaa
