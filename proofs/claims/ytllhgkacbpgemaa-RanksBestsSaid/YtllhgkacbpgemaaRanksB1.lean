/- the walk of slices.Compare at places -/
import Derived.Test.YtllhgkacbpgemaaRanksBL
import Derived.Test.YtllhgkacbpgemaaRanksF
namespace Go.Proofs.Ytllhgkacbpgemaa
open Go.RowKit
set_option linter.unusedVariables false

set_option maxHeartbeats 1600000 in
set_option maxRecDepth 100000 in
theorem compareL_any (u v : Value) (a b : List Nat) (w : World) (hu : RowOf encN w u a) (hv : RowOf encN w v b) (q : Int) (hq : Hid (cmpL a b = q)) :
    Calls Try.prog 46 #[u, v] w fun e w' => e = .returned (.int .i64 q) ∧ w = w' := by
  obtain ⟨ao, ac, rfl, hla, hac⟩ := hu.open
  obtain ⟨bo, bc, rfl, hlb, hbc⟩ := hv.open
  have HA := Lib.hid hac
  have HB := Lib.hid hbc
  clear hu hv hac hbc
  go_enter Try.func46, Try.ntmps46
  go_wp2_with fail
  go_loop [11] (fun i => ∃ (k : Nat), k ≤ a.length ∧ i = .int .i64 k ∧ (k ≤ b.length) ∧ Hid (cmpL (a.drop k) (b.drop k) = q)) (fun i => a.length - (intOf i).toNat)
  case atStart => exact ⟨0, Nat.zero_le _, rfl, Nat.zero_le _, hq⟩
  case round =>
    obtain ⟨k, hk, rfl, hkb, HI⟩ := hrel
    by_cases hlt : k < a.length
    · obtain ⟨x, x1, x2, _⟩ := get_lt hlt
      obtain ⟨ba, oa, rfl, ca⟩ := HA.out.at x1
      by_cases hlt2 : k < b.length
      · obtain ⟨y, y1, y2, _⟩ := get_lt hlt2
        obtain ⟨bb, ob, rfl, cb⟩ := HB.out.at y1
        have hi := HI.out
        rw [x2.out, y2.out, cmpL] at hi
        by_cases hxy : x = y
        · subst hxy
          rw [if_pos rfl] at hi
          have hc : cmpI (x : Int) (x : Int) = 0 := by simp [cmpI]
          have HC := Lib.hid (compare_any (x : Int) (x : Int) w)
          rw [hc] at HC
          have HI2 := Lib.hid hi
          clear hi hc
          go_wp2_with fail
          refine HC.out.mono ?_
          rintro e w' ⟨rfl, rfl⟩
          go_wp2_with fail
          go_round
          case rel => exact ⟨k + 1, by omega, by go_num, by omega, HI2⟩
          case measure => simp [intOf]; omega
        · rw [if_neg hxy] at hi
          have hc : cmpI (x : Int) (y : Int) = q := by
            rw [← hi, cmpI]
            by_cases h : x < y
            · rw [if_pos h, if_pos (by omega)]
            · rw [if_neg h, if_neg (by omega), if_pos (by omega)]
          have hq0 : (q != 0) = true := by
            rw [← hi]
            by_cases h : x < y
            · rw [if_pos h]; rfl
            · rw [if_neg h]; rfl
          have HC := Lib.hid (compare_any (x : Int) (y : Int) w)
          rw [hc] at HC
          clear hi hc hxy
          go_wp2_with fail
          refine HC.out.mono ?_
          rintro e w' ⟨rfl, rfl⟩
          go_wp2_with fail
          go_ret
          exact ⟨rfl, rfl⟩
      · obtain ⟨y2, _⟩ := get_ge hlt2
        have hq2 : q = 1 := by rw [← HI.out, x2.out, y2.out]; rfl
        subst hq2
        have hge : (b.length : Int) ≤ (k : Int) := by omega
        have hgn : b.length ≤ k := by omega
        go_wp2_with fail
        go_ret
        exact ⟨rfl, rfl⟩
    · obtain ⟨x2, _⟩ := get_ge hlt
      have hka : k = a.length := by omega
      subst hka
      by_cases hlt2 : a.length < b.length
      · obtain ⟨y, y1, y2, _⟩ := get_lt hlt2
        have hq2 : q = -1 := by rw [← HI.out, x2.out, y2.out]; rfl
        subst hq2
        have hli : (a.length : Int) < (b.length : Int) := by omega
        go_wp2_with fail
        go_ret
        exact ⟨rfl, rfl⟩
      · obtain ⟨y2, _⟩ := get_ge hlt2
        have hq2 : q = 0 := by rw [← HI.out, x2.out, y2.out]; rfl
        subst hq2
        go_wp2_with fail
        go_ret
        exact ⟨rfl, rfl⟩
end Go.Proofs.Ytllhgkacbpgemaa
