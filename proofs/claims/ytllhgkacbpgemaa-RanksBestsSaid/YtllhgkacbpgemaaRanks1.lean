/- walks of the reference for hands: times, Straight, HandClass -/
import Derived.Test.YtllhgkacbpgemaaCards3
import Derived.Test.YtllhgkacbpgemaaRanksL
namespace Go.Proofs.Ytllhgkacbpgemaa
open Go.RowKit
set_option linter.unusedVariables false

set_option maxHeartbeats 800000 in
set_option maxRecDepth 100000 in
theorem times_any (v : Value) (xs : List Int) (r : Int) (w : World) (hv : Ints w v xs) (hx : ∀ x ∈ xs, 0 ≤ x ∧ x ≤ 51) (q : Nat) (hq : Hid (cntR xs r = q)) :
    Calls Try.prog 69 #[v, .int .i64 r] w fun e w' => e = .returned (.int .i64 q) ∧ w = w' := by
  have HX := Lib.hid hx
  obtain ⟨ao, c, rfl, hlen, hc⟩ := hv.open
  have HCC := Lib.hid hc
  clear hv hx hc
  go_enter Try.func69, Try.ntmps69
  go_wp2_with fail
  go_loop [5, 10] (fun n i => ∃ (k z : Nat), k ≤ xs.length ∧ i = .int .i64 k ∧ n = .int .i64 z ∧ z ≤ k ∧ Hid (cntR (xs.take k) r = z)) (fun _ i => xs.length - (intOf i).toNat)
  case atStart => exact ⟨0, 0, Nat.zero_le _, rfl, rfl, Nat.le_refl _, rfl⟩
  case round =>
    obtain ⟨k, z, hk, rfl, rfl, hz, HZ⟩ := hrel
    by_cases hlt : k < xs.length
    · obtain ⟨x, x1, _, x3⟩ := get_lt hlt
      obtain ⟨b, off, rfl, hcell⟩ := HCC.out.at x1
      obtain ⟨hx0, hx51⟩ := HX.out x (List.mem_of_getElem? x1.out)
      have hs : cntR (xs.take (k + 1)) r = z + if decide (x % 13 = r) then 1 else 0 := by
        rw [cntR, countP_take_lt x3]; rw [← HZ.out]; rfl
      by_cases hr : x % 13 = r
      · have HS : Hid (cntR (xs.take (k + 1)) r = z + 1) := by show _ = _; rw [hs]; simp [hr]
        have hb : (x % 13 == r) = true := by simp [hr]
        clear hs hr
        go_wp2_with fail
        go_round
        case rel => exact ⟨k + 1, z + 1, by omega, by go_num, by go_num, by omega, HS⟩
        case measure => simp [intOf]; omega
      · have HS : Hid (cntR (xs.take (k + 1)) r = z) := by show _ = _; rw [hs]; simp [hr]
        have hb : (x % 13 == r) = false := by simp [hr]
        clear hs hr
        go_wp2_with fail
        go_round
        case rel => exact ⟨k + 1, z, by omega, by go_num, rfl, by omega, HS⟩
        case measure => simp [intOf]; omega
    · obtain ⟨_, h1⟩ := get_ge hlt
      rw [h1.out, hq.out] at HZ
      obtain rfl := HZ.out
      go_wp2_with fail
      go_ret
      exact ⟨rfl, rfl⟩

set_option maxHeartbeats 1600000 in
set_option maxRecDepth 100000 in
theorem straightR_any (v : Value) (xs : List Int) (w : World) (hv : Ints w v xs) (hx : ∀ x ∈ xs, 0 ≤ x ∧ x ≤ 51) (q : Int) (hq : Hid (strD (cntR xs) 10 = q)) :
    Calls Try.prog 68 #[v] w fun e w' => e = .returned (.int .i64 q) ∧ w = w' := by
  have HT := Lib.hid (fun (r : Int) => times_any v xs r w hv hx (cntR xs r) rfl)
  obtain ⟨c, hc⟩ : ∃ c, cntR xs = c := ⟨_, rfl⟩
  rw [hc] at HT hq
  clear hv hx hc
  go_enter Try.func68, Try.ntmps68
  go_wp2_with fail
  go_loop [3] (fun h => ∃ (n : Nat), n ≤ 10 ∧ h = .int .i64 ((n : Int) + 2) ∧ Hid (strD c n = q)) (fun h => (intOf h).toNat)
  case atStart => exact ⟨10, Nat.le_refl _, by go_num, hq⟩
  case round =>
    obtain ⟨n, hn, rfl, HI⟩ := hrel
    cases n with
    | zero =>
      have hq2 : q = -1 := HI.out.symm
      subst hq2
      go_wp2_with fail
      go_ret
      exact ⟨rfl, rfl⟩
    | succ n =>
      have hh : ((n + 1 : Nat) : Int) + 2 = (n : Int) + 3 := by omega
      rw [hh]
      clear hh
      have h0 : (3 : Int) ≤ (n : Int) + 3 := by omega
      obtain ⟨h, hh⟩ : ∃ h, (n : Int) + 3 = h := ⟨_, rfl⟩
      have hI2 := HI.out
      rw [strD, hh] at hI2
      have HI2 := Lib.hid hI2
      have hh2 : Hid ((n : Int) + 3 = h) := hh
      have hh3 : h ≤ 12 := by omega
      have hh4 : 3 ≤ h := by omega
      rw [hh]
      clear hh h0 hI2
      go_wp2_with fail
      go_loop [4, 11] (fun b k => ∃ (j : Nat) (a : Bool), j ≤ 5 ∧ k = .int .i64 j ∧ b = .bool a ∧ Hid (allTo c h j = a)) (fun _ k => 5 - (intOf k).toNat)
      case atStart => exact ⟨0, true, Nat.zero_le _, rfl, rfl, rfl⟩
      case round =>
        obtain ⟨j, a, hj, rfl, rfl, HA⟩ := hrel
        by_cases hjt : j < 5
        · obtain ⟨r, hr⟩ : ∃ r, Hid (rnk h j = r) := ⟨_, rfl⟩
          have hs : allTo c h (j + 1) = (a && decide (c r = 1)) := by rw [allTo, HA.out, hr.out]
          have HS := Lib.hid hs
          clear hs
          by_cases hneg : h - (j : Int) < 0
          · have hr2 : r = 12 := by rw [← hr.out, rnk, if_pos hneg]
            subst hr2
            cases a with
            | false =>
              go_wp2_with fail
              go_round
              case rel => exact ⟨j + 1, false, by omega, by go_num, rfl, HS⟩
              case measure => simp [intOf]; omega
            | true =>
              have HTr := Lib.hid (HT.out 12)
              by_cases hc1 : c 12 = 1
              · rw [hc1] at HTr
                have HS2 : Hid (allTo c h (j + 1) = true) := by show _ = _; rw [HS.out]; simp [hc1]
                clear hc1
                go_wp2_with fail
                refine HTr.out.mono ?_
                rintro e w' ⟨rfl, rfl⟩
                go_wp2_with fail
                go_round
                case rel => exact ⟨j + 1, true, by omega, by go_num, rfl, HS2⟩
                case measure => simp [intOf]; omega
              · have HS2 : Hid (allTo c h (j + 1) = false) := by show _ = _; rw [HS.out]; simp [hc1]
                have hb : (((c 12 : Nat) : Int) == 1) = false := by rw [beq_eq_false_iff_ne]; omega
                clear hc1
                go_wp2_with fail
                refine HTr.out.mono ?_
                rintro e w' ⟨rfl, rfl⟩
                go_wp2_with fail
                go_round
                case rel => exact ⟨j + 1, false, by omega, by go_num, rfl, HS2⟩
                case measure => simp [intOf]; omega
          · have hr2 : h - (j : Int) = r := by rw [← hr.out, rnk, if_neg hneg]
            have hr0 : 0 ≤ r := by omega
            cases a with
            | false =>
              go_wp2_with fail
              go_round
              case rel => exact ⟨j + 1, false, by omega, by go_num, rfl, HS⟩
              case measure => simp [intOf]; omega
            | true =>
              have HTr := Lib.hid (HT.out r)
              by_cases hc1 : c r = 1
              · rw [hc1] at HTr
                have HS2 : Hid (allTo c h (j + 1) = true) := by show _ = _; rw [HS.out]; simp [hc1]
                clear hc1
                go_wp2_with fail
                refine HTr.out.mono ?_
                rintro e w' ⟨rfl, rfl⟩
                go_wp2_with fail
                go_round
                case rel => exact ⟨j + 1, true, by omega, by go_num, rfl, HS2⟩
                case measure => simp [intOf]; omega
              · have HS2 : Hid (allTo c h (j + 1) = false) := by show _ = _; rw [HS.out]; simp [hc1]
                have hb : (((c r : Nat) : Int) == 1) = false := by rw [beq_eq_false_iff_ne]; omega
                clear hc1
                go_wp2_with fail
                refine HTr.out.mono ?_
                rintro e w' ⟨rfl, rfl⟩
                go_wp2_with fail
                go_round
                case rel => exact ⟨j + 1, false, by omega, by go_num, rfl, HS2⟩
                case measure => simp [intOf]; omega
        · have hj5 : j = 5 := by omega
          subst hj5
          have hI3 := HI2.out
          rw [HA.out] at hI3
          cases a with
          | true =>
            have hq2 : h = q := by simpa using hI3
            subst hq2
            go_wp2_with fail
            go_ret
            exact ⟨rfl, rfl⟩
          | false =>
            have HI4 : Hid (strD c n = q) := by simpa [Hid] using hI3
            clear hI3
            have hm : h - 1 = (n : Int) + 2 := by have := hh2.out; omega
            go_wp2_with fail
            go_round
            case rel => exact ⟨n, by omega, rfl, HI4⟩
            case measure => simp [intOf]; omega
end Go.Proofs.Ytllhgkacbpgemaa
