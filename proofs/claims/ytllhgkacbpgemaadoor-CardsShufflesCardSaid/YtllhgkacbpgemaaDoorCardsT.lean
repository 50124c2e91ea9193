/- the walk of CardsShuffles, at every input -/
import Derived.Test.YtllhgkacbpgemaaDoorCardsS
namespace Go.Proofs.YtllhgkacbpgemaaDoor
open Go.RowKit
set_option linter.unusedVariables false

theorem shuffles_walk (u v : Value) (xs ds : List Int) (n : Int) (w : World) (hsh : w.ShapedOpen Tryd.prog) (hu : Ints w u xs) (hv : Ints w v ds) (hl : xs.length + 512 ≤ 17592186044416) :
    Calls Tryd.prog 3 #[u, v, .int .i64 n] w fun e w' => e = .returned (.bool true) ∧ Ext w w' := by
  by_cases h2 : deckErr xs = 0
  · by_cases h3 : drawsErr xs.length ds = 0
    · by_cases h0 : n < 0
      · exact shuffles_lo_ok u v xs ds n w hsh hu hv hl h0 h2 h3
      · by_cases h1 : 52 < n
        · exact shuffles_hi_ok u v xs ds n w hsh hu hv hl (by omega) h1 h2 h3
        · obtain ⟨m, rfl⟩ := Int.eq_ofNat_of_zero_le (show 0 ≤ n by omega)
          exact shuffles_ok_ok u v xs ds m w hsh hu hv hl (by omega) h2 h3
    · by_cases h0 : n < 0
      · exact shuffles_lo_e2 u v xs ds n w hsh hu hv hl h0 h2 h3
      · by_cases h1 : 52 < n
        · exact shuffles_hi_e2 u v xs ds n w hsh hu hv hl (by omega) h1 h2 h3
        · obtain ⟨m, rfl⟩ := Int.eq_ofNat_of_zero_le (show 0 ≤ n by omega)
          exact shuffles_ok_e2 u v xs ds m w hsh hu hv hl (by omega) h2 h3
  · by_cases h0 : n < 0
    · exact shuffles_lo_e1 u v xs ds n w hsh hu hv hl h0 h2
    · by_cases h1 : 52 < n
      · exact shuffles_hi_e1 u v xs ds n w hsh hu hv hl (by omega) h1 h2
      · obtain ⟨m, rfl⟩ := Int.eq_ofNat_of_zero_le (show 0 ≤ n by omega)
        exact shuffles_ok_e1 u v xs ds m w hsh hu hv hl (by omega) h2
end Go.Proofs.YtllhgkacbpgemaaDoor
