/- comparison of two states of a sum -/
import Derived.Test.YtnmcljjfepngeaaTsO
import Derived.Laws.StructEq
namespace Go.Proofs.Ytnmcljjfepngeaa
open Go.RowKit Go.Maps
set_option linter.unusedVariables false
theorem eq_state (a c : Int) (s t : ByteArray) (w : World) : (Op.equalIn 10000 37 (.agg #[.int .i64 a, .string s]) (.agg #[.int .i64 c, .string t])).run Try.prog w = .ok (a == c && s.toList == t.toList) w := by
  have u3 := Try.underlying3
  have a3 := Try.isAgg3
  have z3 := Try.sizeOf3
  have u9 := Try.underlying9
  have a9 := Try.isAgg9
  have z9 := Try.sizeOf9
  rw [show (10000 : Nat) = 9999 + 1 from rfl, run_equalIn_struct w 9999 37 _ _ (by kernel_rfl) (by kernel_rfl)]
  have hf : (Try.prog.fieldsOf 37).toList = [{ name := "A", type := 3, offset := 0, embedded := false, tag := "", pkgPath := "", byteOffset := 0 }, { name := "B", type := 9, offset := 1, embedded := false, tag := "", pkgPath := "", byteOffset := 8 }] := by kernel_rfl
  rw [hf]
  rw [Op.eqFields]
  simp only [Op.eqFields]
  go_simp
  by_cases h1 : a = c <;> by_cases h2 : s.toList = t.toList <;> simp [h1, h2]
end Go.Proofs.Ytnmcljjfepngeaa
