/- arguments that are read: a struct of two integers -/
import Derived.Test.YtllhgkacbpgemaaDoorInC
import Derived.Lib.SmallJoins
import Derived.ChangeArms
namespace Go.Proofs.YtllhgkacbpgemaaDoor
open Go.ChangeShapes Go.WideShapes Go.ChangeAt Go.RowKit Go.Deep

set_option maxRecDepth 100000 in
theorem entry_in {H : Type} {enc : TypeId × Value → H} {W : World} {base : Nat} {v : Value} {d : DataW H} {p : List MemPlace} (hv : Value.okWide Tryd.prog W .any base 49 v)
    (h : DataW.Trod enc Tryd.prog W 0 (fun _ => true) true 49 v d p) (_ : Sized Tryd.prog 49 d) : ∃ x y : Int, v = .agg #[.int .i64 x, .int .i64 y] := by
  obtain ⟨c0, c1, y0, y1, m, rfl, rfl, rfl, hy0, hy1⟩ := Joins.open_agg2 Tryd.underlying49 (by kernel_rfl) (by kernel_rfl) hv h
  obtain ⟨a, e0, _, _⟩ := DataW.trod_int (k := .i64) (by kernel_rfl) hy0
  obtain ⟨b, e1, _, _⟩ := DataW.trod_int (k := .i64) (by kernel_rfl) hy1
  simp at e0 e1
  subst e0 e1
  exact ⟨a, b, rfl⟩
end Go.Proofs.YtllhgkacbpgemaaDoor
