/- arguments that are read, with their bulk: rows of ints -/
import Derived.Test.YtllhgkacbpgemaaInU
namespace Go.Proofs.Ytllhgkacbpgemaa
open Go.ChangeShapes Go.WideShapes Go.ChangeAt Go.RowKit Go.Deep

set_option maxRecDepth 100000 in
theorem rows_inU {H : Type} {enc : TypeId × Value → H} {W : World} {base : Nat} {v : Value} {d : DataW H} {p : List MemPlace} (hv : Value.okWide Try.prog W .any base 30 v)
    (h : DataW.Trod enc Try.prog W 0 (fun _ => true) true 30 v d p) (hs : Sized Try.prog 30 d) :
    ∃ xss : List (List Int), Rows (Value.int .i64) W v xss ∧ xss.length + 512 ≤ 17592186044416 ∧ (xss.map List.length).sum + 1 ≤ Rows.uptoBulk d := by
  obtain ⟨n, hn⟩ := trod_slice_arg Try.underlying30 hv h
  obtain ⟨us, xss, ds, h1, h2, h2b, h3, hb, h4⟩ := slice_inD (B := 24) (Rel := fun u xs d => Ints W u xs ∧ xs.length ≤ Rows.uptoBulk d) Try.underlying30 (by kernel_rfl) (by kernel_rfl) (by omega)
    (fun n u y hy hz => by
      obtain ⟨xs, e1, _, _, e4⟩ := ints_elemD Try.underlying22 Try.underlying3 (by kernel_rfl) (by kernel_rfl) hy hz
      exact ⟨xs, e1, by omega⟩) hn hs
  have hd : ∀ i, i < xss.length → ∃ d, ds[i]? = some d := fun i hi => ⟨ds[i]'(by omega), List.getElem?_eq_getElem (by omega)⟩
  have hu : ∀ i, i < xss.length → ∃ u, us[i]? = some u := fun i hi => ⟨us[i]'(by omega), List.getElem?_eq_getElem (by omega)⟩
  refine ⟨xss, ⟨us, h1, h2, fun i u xs a b => ?_⟩, ?_, ?_⟩
  · obtain ⟨d, hd⟩ := hd i (List.getElem?_eq_some_iff.1 b).1
    exact (h4 i u xs d a b hd).1
  · unfold reachBytes at h3; omega
  · have := bulk_sum List.length xss ds h2b (fun i x d a b => by
      obtain ⟨u, hu⟩ := hu i (List.getElem?_eq_some_iff.1 a).1
      exact (h4 i u x d hu a b).2)
    have hb2 : Rows.uptoBulkAll ds + 1 ≤ Rows.uptoBulk d := hb
    omega
end Go.Proofs.Ytllhgkacbpgemaa
