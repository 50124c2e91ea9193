/- the walks of the two laws, for all inputs -/
import Derived.Test.YtllhgkacbpgemaaIdx10
namespace Go.Proofs.Ytllhgkacbpgemaa
open Go.RowKit

theorem indexCounts_walk (v1 v2 : Value) (cells l : List Int) (w : World) (h1 : Ints w v1 cells) (h2 : Ints w v2 l) :
    Calls Try.prog 3 #[v1, v2] w fun e w' => e = .returned (.bool true) ∧ Ext w w' := by
  by_cases hc : cellsErr cells = 0
  · obtain ⟨ns, hf, hn⟩ := fit_of hc
    by_cases hl : countsErr l = 0
    · obtain ⟨ls, hfc, hls⟩ := fitC_of hl
      by_cases h7 : ls.sum ≤ 7
      · exact law_counts_ok_ok v1 v2 cells l w h1 h2 ns hf hn ls hfc hls h7
      · exact law_counts_ok_big v1 v2 cells l w h1 h2 ns hf hn ls hfc hls (by omega)
    · exact law_counts_ok_err v1 v2 cells l w h1 h2 ns hf hn hl
  · by_cases hl : countsErr l = 0
    · obtain ⟨ls, hfc, hls⟩ := fitC_of hl
      by_cases h7 : ls.sum ≤ 7
      · exact law_counts_err_ok v1 v2 cells l w h1 h2 hc ls hfc hls h7
      · exact law_counts_err_big v1 v2 cells l w h1 h2 hc ls hfc hls (by omega)
    · exact law_counts_err_err v1 v2 cells l w h1 h2 hc hl

theorem indexRanks_walk (v : Value) (cells : List Int) (n : Int) (w : World) (h1 : Ints w v cells) :
    Calls Try.prog 4 #[v, .int .i64 n] w fun e w' => e = .returned (.bool true) ∧ Ext w w' := by
  by_cases hc : cellsErr cells = 0
  · obtain ⟨ns, hf, rfl⟩ := fit_of hc
    have hv := nats_of h1
    by_cases h6 : 6 < ns.length
    · have hne : ns ≠ [] := by intro e; subst e; simp at h6
      by_cases hp : (ofN ns).Pairwise (· ≥ ·)
      · exact law_ranks_long_last v ns n w hv hf h6 hne hp
      · exact law_ranks_long_more v ns n w hv hf h6 hne hp
    · have h6' : ns.length ≤ 6 := by omega
      rcases (show n < 0 ∨ (0 ≤ n ∧ (waysN (cntN 7 ns) : Int) ≤ n) ∨ (∃ m : Nat, n = m ∧ m < waysN (cntN 7 ns)) from by
        by_cases h0 : n < 0
        · exact .inl h0
        · by_cases h1 : (waysN (cntN 7 ns) : Int) ≤ n
          · exact .inr (.inl ⟨by omega, h1⟩)
          · exact .inr (.inr ⟨n.toNat, by omega, by omega⟩)) with hn | ⟨hn0, hn⟩ | ⟨m, hm, hn⟩
      · by_cases hne : ns = []
        · exact law_ranks_ok_neg_nil v ns n w hv hf h6' hn hne
        · by_cases hp : (ofN ns).Pairwise (· ≥ ·)
          · exact law_ranks_ok_neg_last v ns n w hv hf h6' hn hne hp
          · exact law_ranks_ok_neg_more v ns n w hv hf h6' hn hne hp
      · by_cases hne : ns = []
        · exact law_ranks_ok_big_nil v ns n w hv hf h6' hn0 hn hne
        · by_cases hp : (ofN ns).Pairwise (· ≥ ·)
          · exact law_ranks_ok_big_last v ns n w hv hf h6' hn0 hn hne hp
          · exact law_ranks_ok_big_more v ns n w hv hf h6' hn0 hn hne hp
      · by_cases hne : ns = []
        · exact law_ranks_ok_in_nil v ns n w hv hf h6' m hm hn hne
        · by_cases hp : (ofN ns).Pairwise (· ≥ ·)
          · exact law_ranks_ok_in_last v ns n w hv hf h6' m hm hn hne hp
          · exact law_ranks_ok_in_more v ns n w hv hf h6' m hm hn hne hp
  · exact law_ranks_err v cells n w h1 hc
end Go.Proofs.Ytllhgkacbpgemaa
