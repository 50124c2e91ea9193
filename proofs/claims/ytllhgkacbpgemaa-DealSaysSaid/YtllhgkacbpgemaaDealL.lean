/- the walk of DealSays, at every input -/
import Derived.Test.YtllhgkacbpgemaaDealJ
namespace Go.Proofs.Ytllhgkacbpgemaa
open Go.RowKit

theorem dealSays_walk (k n : Int) (ao : Option Addr) (cap : Nat) (cs : List DC) (w : World) (hv : CallsIn w ao cap cs) :
    Calls Try.prog 6 #[.int .i64 k, .int .i64 n, .slice ao cs.length cap] w fun e w' => e = .returned (.bool true) ∧ Ext w w' := by
  by_cases h : k < 1 ∨ 6 < k ∨ n < 0 ∨ 52 < n
  · exact dealSays_err k n _ w h
  · obtain ⟨k', rfl⟩ := Int.eq_ofNat_of_zero_le (show 0 ≤ k by omega)
    obtain ⟨n', rfl⟩ := Int.eq_ofNat_of_zero_le (show 0 ≤ n by omega)
    exact dealSays_ok k' n' ao cap cs w hv (by omega) (by omega) (by omega)
end Go.Proofs.Ytllhgkacbpgemaa
