/- the law TableCodes, over tableFact's contract -/
import Derived.Test.YtllhgkacbpgemaaDoorTable9
import Derived.Test.YtllhgkacbpgemaaDoorTableB0
import Derived.Test.YtllhgkacbpgemaaDoorTableB1
import Derived.Test.YtllhgkacbpgemaaDoorTableB2
import Derived.Test.YtllhgkacbpgemaaDoorTableB3
namespace Go.Proofs.YtllhgkacbpgemaaDoor
open Go.RowKit
set_option linter.unusedVariables false

theorem codes_walk (r p n : Int) (w : World) (hTF : TFact (w.alloc (.cells #[.int .i64 r, .int .i64 p] 49))) :
    Calls Tryd.prog 6 #[.agg #[.int .i64 r, .int .i64 p], .int .i64 n] w fun e w' => e = .returned (.bool true) ∧ Ext w w' := by
  have hB : n < 0 ∨ (0 ≤ n ∧ 9999 < n) ∨ (3 ≤ n ∧ n ≤ 9999 ∧ n % 3 = 2) ∨ n = 2 ∨ (0 ≤ n ∧ n ≤ 9999 ∧ n % 3 ≠ 2) := by omega
  have hA : r < 1 ∨ (1 ≤ r ∧ 3 < r) ∨ (1 ≤ r ∧ r ≤ 3 ∧ p < 0) ∨ (1 ≤ r ∧ r ≤ 3 ∧ 0 ≤ p ∧ 3333 < p) ∨ (1 ≤ r ∧ r ≤ 3 ∧ 0 ≤ p ∧ p ≤ 3333 ∧ 10000 < 3 * p + r) ∨ (r = 3 ∧ 0 < p ∧ p ≤ 3332) ∨ (r = 3 ∧ p = 0) ∨ (1 ≤ r ∧ r ≤ 2 ∧ 0 ≤ p ∧ p ≤ 3333 ∧ 3 * p + r ≤ 10000) := by omega
  rcases hA with h1 | ⟨h1, h1b⟩ | ⟨h1, h1b, h1c⟩ | ⟨h1, h1b, h1c, h1d⟩ | ⟨h1, h1b, h1c, h1d, h1e⟩ | ⟨h1, h1c, h1d⟩ | ⟨h1, h1c⟩ | ⟨h1, h1b, h1c, h1d, h1e⟩
  · rcases hB with h2 | ⟨h2, h2b⟩ | ⟨h2, h2b, h2c⟩ | h2 | ⟨h2, h2b, h2c⟩
    · exact codes_a1 r p n w hTF h1 h2
    · exact codes_0_1 r p n w hTF h1 h2 h2b
    · exact codes_a0b2 r p n w hTF h1 h2 h2b h2c
    · exact codes_a0b3 r p n w hTF h1 h2
    · exact codes_a0b4 r p n w hTF h1 h2 h2b h2c
  · rcases hB with h2 | ⟨h2, h2b⟩ | ⟨h2, h2b, h2c⟩ | h2 | ⟨h2, h2b, h2c⟩
    · exact codes_1_0 r p n w hTF h1 h1b h2
    · exact codes_1_1 r p n w hTF h1 h1b h2 h2b
    · exact codes_a1b2 r p n w hTF h1 h1b h2 h2b h2c
    · exact codes_a1b3 r p n w hTF h1 h1b h2
    · exact codes_a1b4 r p n w hTF h1 h1b h2 h2b h2c
  · rcases hB with h2 | ⟨h2, h2b⟩ | ⟨h2, h2b, h2c⟩ | h2 | ⟨h2, h2b, h2c⟩
    · exact codes_2_0 r p n w hTF h1 h1b h1c h2
    · exact codes_2_1 r p n w hTF h1 h1b h1c h2 h2b
    · exact codes_a2b2 r p n w hTF h1 h1b h1c h2 h2b h2c
    · exact codes_a2b3 r p n w hTF h1 h1b h1c h2
    · exact codes_a2b4 r p n w hTF h1 h1b h1c h2 h2b h2c
  · rcases hB with h2 | ⟨h2, h2b⟩ | ⟨h2, h2b, h2c⟩ | h2 | ⟨h2, h2b, h2c⟩
    · exact codes_3_0 r p n w hTF h1 h1b h1c h1d h2
    · exact codes_3_1 r p n w hTF h1 h1b h1c h1d h2 h2b
    · exact codes_a3b2 r p n w hTF h1 h1b h1c h1d h2 h2b h2c
    · exact codes_a3b3 r p n w hTF h1 h1b h1c h1d h2
    · exact codes_a3b4 r p n w hTF h1 h1b h1c h1d h2 h2b h2c
  · rcases hB with h2 | ⟨h2, h2b⟩ | ⟨h2, h2b, h2c⟩ | h2 | ⟨h2, h2b, h2c⟩
    · exact codes_4_0 r p n w hTF h1 h1b h1c h1d h1e h2
    · exact codes_4_1 r p n w hTF h1 h1b h1c h1d h1e h2 h2b
    · exact codes_a4b2 r p n w hTF h1 h1b h1c h1d h1e h2 h2b h2c
    · exact codes_a4b3 r p n w hTF h1 h1b h1c h1d h1e h2
    · exact codes_a4b4 r p n w hTF h1 h1b h1c h1d h1e h2 h2b h2c
  · rcases hB with h2 | ⟨h2, h2b⟩ | ⟨h2, h2b, h2c⟩ | h2 | ⟨h2, h2b, h2c⟩
    · exact codes_a5b0 r p n w hTF h1 h1c h1d h2
    · exact codes_a5b1 r p n w hTF h1 h1c h1d h2 h2b
    · exact codes_a5b2 r p n w hTF h1 h1c h1d h2 h2b h2c
    · exact codes_a5b3 r p n w hTF h1 h1c h1d h2
    · exact codes_a5b4 r p n w hTF h1 h1c h1d h2 h2b h2c
  · rcases hB with h2 | ⟨h2, h2b⟩ | ⟨h2, h2b, h2c⟩ | h2 | ⟨h2, h2b, h2c⟩
    · exact codes_a6b0 r p n w hTF h1 h1c h2
    · exact codes_a6b1 r p n w hTF h1 h1c h2 h2b
    · exact codes_a6b2 r p n w hTF h1 h1c h2 h2b h2c
    · exact codes_a6b3 r p n w hTF h1 h1c h2
    · exact codes_a6b4 r p n w hTF h1 h1c h2 h2b h2c
  · rcases hB with h2 | ⟨h2, h2b⟩ | ⟨h2, h2b, h2c⟩ | h2 | ⟨h2, h2b, h2c⟩
    · exact codes_a7b0 r p n w hTF h1 h1b h1c h1d h1e h2
    · exact codes_a7b1 r p n w hTF h1 h1b h1c h1d h1e h2 h2b
    · exact codes_a7b2 r p n w hTF h1 h1b h1c h1d h1e h2 h2b h2c
    · exact codes_a7b3 r p n w hTF h1 h1b h1c h1d h1e h2
    · exact codes_a7b4 r p n w hTF h1 h1b h1c h1d h1e h2 h2b h2c
end Go.Proofs.YtllhgkacbpgemaaDoor
