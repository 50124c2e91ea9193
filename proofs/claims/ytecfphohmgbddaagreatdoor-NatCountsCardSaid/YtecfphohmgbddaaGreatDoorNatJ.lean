/- walks: the law NatCounts, NatJ -/
import Derived.Test.YtecfphohmgbddaaGreatDoorNatJ1
import Derived.Test.YtecfphohmgbddaaGreatDoorNatJ2
import Derived.Test.YtecfphohmgbddaaGreatDoorNatJ3
namespace Go.Proofs.YtecfphohmgbddaaGreatDoor
open Go.RowKit
set_option linter.unusedVariables false

theorem natCounts_walk (n k : Int) (w : World) (htab : TabPow w) :
    Calls Tryz.prog 6 #[.int .i64 n, .int .i64 k] w fun e w' => e = .returned (.bool true) ∧ Ext w w' := by
  by_cases h : n < 0 ∨ 1000 < n
  · exact natCounts_bad n k w htab h
  · obtain ⟨m, rfl⟩ : ∃ m : Nat, n = (m : Int) := ⟨n.toNat, by omega⟩
    by_cases hb : 25 < m
    · by_cases hk : k < 0 ∨ (m : Int) < k
      · exact natCounts_big0 m k w htab (by omega) hb hk
      · obtain ⟨l, rfl⟩ : ∃ l : Nat, k = (l : Int) := ⟨k.toNat, by omega⟩
        exact natCounts_big1 m l w htab (by omega) hb (by omega)
    · by_cases hk : k < 0
      · exact natCounts_small0a m k w htab (by omega) hk
      · by_cases hk2 : (m : Int) < k
        · exact natCounts_small0b m k w htab (by omega) ⟨by omega, hk2⟩
        · obtain ⟨l, rfl⟩ : ∃ l : Nat, k = (l : Int) := ⟨k.toNat, by omega⟩
          exact natCounts_small1 m l w htab (by omega) (by omega)
end Go.Proofs.YtecfphohmgbddaaGreatDoor
