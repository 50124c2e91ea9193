/- the walk of DealCombines, at every input -/
import Derived.Test.YtllhgkacbpgemaaDealD
namespace Go.Proofs.Ytllhgkacbpgemaa
open Go.RowKit

theorem wf_bd {x : Int} (h : (Lit.int .i64 x).wf = true) : -9223372036854775808 ≤ x ∧ x ≤ 9223372036854775807 := by
  have h1 : IntKind.i64.min = -9223372036854775808 := by decide
  have h2 : IntKind.i64.max = 9223372036854775807 := by decide
  simp [Lit.wf] at h
  omega

theorem dealCombines_walk (n s : Int) (v : Value) (xss : List (List Int)) (w : World) (hv : Rows (Value.int .i64) w v xss) (hn : -9223372036854775808 ≤ n ∧ n ≤ 9223372036854775807) (hb : ∀ x ∈ xss, x.length + 2 ≤ 17592186044416) :
    Calls Try.prog 5 #[.int .i64 n, v, .int .i64 s] w fun e w' => e = .returned (.bool true) ∧ Ext w w' := by
  by_cases h0 : n < 0
  · exact dealCombines_neg n s v xss w hv hb hn h0
  · by_cases h1 : 52 < n
    · exact dealCombines_great n s v xss w hv hb hn h1
    · by_cases h6 : 6 < xss.length
      · exact dealCombines_many n s v xss w hv hb hn (by omega) (by omega) h6
      · by_cases hf : firstErr n xss = 0
        · obtain ⟨m, rfl⟩ := Int.eq_ofNat_of_zero_le (show 0 ≤ n by omega)
          exact dealCombines_ok m s v xss w hv hb (by omega) (by omega) hf
        · exact dealCombines_first n s v xss w hv hb hn (by omega) (by omega) (by omega) hf
end Go.Proofs.Ytllhgkacbpgemaa
