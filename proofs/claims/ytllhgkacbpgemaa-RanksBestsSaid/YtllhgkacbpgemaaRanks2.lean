/- walks of the reference for hands: HandClass, HandValue, HandError; Check -/
import Derived.Test.YtllhgkacbpgemaaRanks1
namespace Go.Proofs.Ytllhgkacbpgemaa
open Go.RowKit
set_option linter.unusedVariables false

def rk13 (x : Int) : Int := x % 13
def st13 (x : Int) : Int := x / 13

/-- what the reference calls class -/
def classR (xs : List Int) : Int := clsR (strD (cntR xs) 10) (prsTo rk13 xs xs.length) (prsTo st13 xs xs.length)

theorem prsTo_step {f : Int → Int} {xs : List Int} {k : Nat} {x : Int} (h : Hid (xs[k]? = some x)) : prsTo f xs (k + 1) = prsTo f xs k + (xs.take k).countP (fun b => decide (f x = f b)) := by
  rw [prsTo, List.getD_eq_getElem?_getD, h.out]; rfl

theorem classR_cases (s : Int) (p u : Nat) : Hid ((0 ≤ s ∧ u = 10 ∧ clsR s p u = 8) ∨ (p = 6 ∧ ((s < 0 ∧ u = 10) ∨ u ≠ 10) ∧ clsR s p u = 7) ∨ (p = 4 ∧ ((s < 0 ∧ u = 10) ∨ u ≠ 10) ∧ clsR s p u = 6) ∨ (p ≠ 6 ∧ p ≠ 4 ∧ s < 0 ∧ u = 10 ∧ clsR s p u = 5) ∨ (p ≠ 6 ∧ p ≠ 4 ∧ 0 ≤ s ∧ u ≠ 10 ∧ clsR s p u = 4) ∨ (p ≠ 6 ∧ p ≠ 4 ∧ s < 0 ∧ u ≠ 10 ∧ clsR s p u = p)) := by
  unfold Hid clsR
  repeat' split
  all_goals omega

set_option maxHeartbeats 1600000 in
set_option maxRecDepth 100000 in
theorem handClass_any (v : Value) (xs : List Int) (w : World) (hv : Ints w v xs) (hx : ∀ x ∈ xs, 0 ≤ x ∧ x ≤ 51) (h52 : xs.length ≤ 52) (q : Int) (hq : Hid (classR xs = q)) :
    Calls Try.prog 39 #[v] w fun e w' => e = .returned (.int .i64 q) ∧ w = w' := by
  obtain ⟨s, hs⟩ : ∃ s, Hid (strD (cntR xs) 10 = s) := ⟨_, rfl⟩
  have HS := Lib.hid (straightR_any v xs w hv hx s hs)
  have HX := Lib.hid hx
  obtain ⟨ao, c, rfl, hlen, hlc, hnn, hc⟩ := hv.open'
  have HCC := Lib.hid hc
  have hq2 := hq.out
  rw [classR, hs.out] at hq2
  have HQ := Lib.hid hq2
  clear hv hx hc hs hq hq2 hnn
  go_enter Try.func39, Try.ntmps39
  go_wp2_with fail
  go_loop [3, 4, 11] (fun a b i => ∃ (k p u : Nat), k ≤ xs.length ∧ i = .int .i64 k ∧ a = .int .i64 p ∧ b = .int .i64 u ∧ p ≤ k * k ∧ u ≤ k * k ∧ Hid (prsTo rk13 xs k = p) ∧ Hid (prsTo st13 xs k = u)) (fun _ _ i => xs.length - (intOf i).toNat)
  case atStart => exact ⟨0, 0, 0, Nat.zero_le _, rfl, rfl, rfl, Nat.le_refl _, Nat.le_refl _, rfl, rfl⟩
  case round =>
    obtain ⟨k, p, u, hk, rfl, rfl, rfl, hp, hu, HP, HU⟩ := hrel
    have hkk : k * k ≤ 52 * 52 := Nat.mul_le_mul (by omega) (by omega)
    by_cases hlt : k < xs.length
    · obtain ⟨x, x1, _, x3⟩ := get_lt hlt
      obtain ⟨b, off, rfl, hcell⟩ := HCC.out.at x1
      obtain ⟨hx0, hx51⟩ := HX.out x (List.mem_of_getElem? x1.out)
      have hkc : (k : Int) ≤ (c : Int) := by omega
      have hP1 := prsTo_step (f := rk13) x1
      have hU1 := prsTo_step (f := st13) x1
      have HP1 := Lib.hid hP1
      have HU1 := Lib.hid hU1
      clear hP1 hU1
      have hp2 : p ≤ 2704 := by omega
      have hu2 : u ≤ 2704 := by omega
      clear hp hu hkk
      go_wp2_with fail
      go_loop [3, 4, 20] (fun a b i => ∃ (j p2 u2 : Nat), j ≤ k ∧ i = .int .i64 j ∧ a = .int .i64 p2 ∧ b = .int .i64 u2 ∧ p2 ≤ p + j ∧ u2 ≤ u + j ∧ Hid (p + (xs.take j).countP (fun b => decide (rk13 x = rk13 b)) = p2) ∧ Hid (u + (xs.take j).countP (fun b => decide (st13 x = st13 b)) = u2)) (fun _ _ i => k - (intOf i).toNat)
      case atStart => exact ⟨0, p, u, Nat.zero_le _, rfl, rfl, rfl, Nat.le_refl _, Nat.le_refl _, rfl, rfl⟩
      case round =>
        obtain ⟨j, p2, u2, hj, rfl, rfl, rfl, hp3, hu3, HP2, HU2⟩ := hrel
        by_cases hjt : j < k
        · obtain ⟨y, y1, _, y3⟩ := get_lt (xs := xs) (k := j) (by omega)
          have hcy := HCC.out.at' y1
          obtain ⟨hy0, hy51⟩ := HX.out y (List.mem_of_getElem? y1.out)
          have e1 := countP_take_lt (p := fun b => decide (rk13 x = rk13 b)) y3
          have e2 := countP_take_lt (p := fun b => decide (st13 x = st13 b)) y3
          by_cases hr : x % 13 = y % 13
          · have hb1 : (x % 13 == y % 13) = true := by simp [hr]
            have E1 : Hid (p + (xs.take (j + 1)).countP (fun b => decide (rk13 x = rk13 b)) = p2 + 1) := by
              show _ = _
              rw [e1, ← HP2.out]; simp [rk13, hr]; omega
            by_cases hr2 : x / 13 = y / 13
            · have hb2 : (x / 13 == y / 13) = true := by simp [hr2]
              have E2 : Hid (u + (xs.take (j + 1)).countP (fun b => decide (st13 x = st13 b)) = u2 + 1) := by
                show _ = _
                rw [e2, ← HU2.out]; simp [st13, hr2]; omega
              clear e1 e2 hr hr2
              go_wp2_with fail
              go_round
              case rel => exact ⟨j + 1, p2 + 1, u2 + 1, by omega, by go_num, by go_num, by go_num, by omega, by omega, E1, E2⟩
              case measure => simp [intOf]; omega
            · have hb2 : (x / 13 == y / 13) = false := by simp [hr2]
              have E2 : Hid (u + (xs.take (j + 1)).countP (fun b => decide (st13 x = st13 b)) = u2) := by
                show _ = _
                rw [e2, ← HU2.out]; simp [st13, hr2]
              clear e1 e2 hr hr2
              go_wp2_with fail
              go_round
              case rel => exact ⟨j + 1, p2 + 1, u2, by omega, by go_num, by go_num, rfl, by omega, by omega, E1, E2⟩
              case measure => simp [intOf]; omega
          · have hb1 : (x % 13 == y % 13) = false := by simp [hr]
            have E1 : Hid (p + (xs.take (j + 1)).countP (fun b => decide (rk13 x = rk13 b)) = p2) := by
              show _ = _
              rw [e1, ← HP2.out]; simp [rk13, hr]
            by_cases hr2 : x / 13 = y / 13
            · have hb2 : (x / 13 == y / 13) = true := by simp [hr2]
              have E2 : Hid (u + (xs.take (j + 1)).countP (fun b => decide (st13 x = st13 b)) = u2 + 1) := by
                show _ = _
                rw [e2, ← HU2.out]; simp [st13, hr2]; omega
              clear e1 e2 hr hr2
              go_wp2_with fail
              go_round
              case rel => exact ⟨j + 1, p2, u2 + 1, by omega, by go_num, rfl, by go_num, by omega, by omega, E1, E2⟩
              case measure => simp [intOf]; omega
            · have hb2 : (x / 13 == y / 13) = false := by simp [hr2]
              have E2 : Hid (u + (xs.take (j + 1)).countP (fun b => decide (st13 x = st13 b)) = u2) := by
                show _ = _
                rw [e2, ← HU2.out]; simp [st13, hr2]
              clear e1 e2 hr hr2
              go_wp2_with fail
              go_round
              case rel => exact ⟨j + 1, p2, u2, by omega, by go_num, rfl, rfl, by omega, by omega, E1, E2⟩
              case measure => simp [intOf]; omega
        · have hjk : j = k := by omega
          subst hjk
          have A1 : Hid (prsTo rk13 xs (j + 1) = p2) := by show _ = _; rw [HP1.out, HP.out, HP2.out]
          have A2 : Hid (prsTo st13 xs (j + 1) = u2) := by show _ = _; rw [HU1.out, HU.out, HU2.out]
          have b1 := prsTo_le rk13 xs (j + 1)
          have b2 := prsTo_le st13 xs (j + 1)
          rw [A1.out] at b1
          rw [A2.out] at b2
          go_wp2_with fail
          go_round
          case rel => exact ⟨j + 1, p2, u2, by omega, by go_num, rfl, rfl, b1, b2, A1, A2⟩
          case measure => simp [intOf]; omega
    · have hkl : k = xs.length := by omega
      subst hkl
      have hq3 := HQ.out
      rw [HP.out, HU.out] at hq3
      have hp2 : p ≤ 2704 := by have := Nat.mul_le_mul h52 h52; omega
      have hu2 : u ≤ 2704 := by have := Nat.mul_le_mul h52 h52; omega
      have hcs := (classR_cases s p u).out
      rw [hq3] at hcs
      clear hp hu hkk hq3 HP HU
      rcases hcs with ⟨h1, h2, h3⟩ | ⟨h1, h2, h3⟩ | ⟨h1, h2, h3⟩ | ⟨h1, h2, h3, h4, h5⟩ | ⟨h1, h2, h3, h4, h5⟩ | ⟨h1, h2, h3, h4, h5⟩
      · subst h2; subst h3
        go_wp2_with fail
        refine HS.out.mono ?_
        rintro e w' ⟨rfl, rfl⟩
        go_wp2_with fail
        go_ret
        exact ⟨rfl, rfl⟩
      · subst h1; subst h3
        rcases h2 with ⟨h2, h4⟩ | h2
        · subst h4
          have hd : decide (0 ≤ s) = false := by simp; omega
          go_wp2_with fail
          refine HS.out.mono ?_
          rintro e w' ⟨rfl, rfl⟩
          go_wp2_with fail
          go_ret
          exact ⟨rfl, rfl⟩
        · have hb : (((u : Nat) : Int) == 10) = false := by rw [beq_eq_false_iff_ne]; omega
          by_cases hs : 0 ≤ s
          · go_wp2_with fail
            refine HS.out.mono ?_
            rintro e w' ⟨rfl, rfl⟩
            go_wp2_with fail
            go_ret
            exact ⟨rfl, rfl⟩
          · have hd : decide (0 ≤ s) = false := by simp; omega
            go_wp2_with fail
            refine HS.out.mono ?_
            rintro e w' ⟨rfl, rfl⟩
            go_wp2_with fail
            go_ret
            exact ⟨rfl, rfl⟩
      · subst h1; subst h3
        rcases h2 with ⟨h2, h4⟩ | h2
        · subst h4
          have hd : decide (0 ≤ s) = false := by simp; omega
          go_wp2_with fail
          refine HS.out.mono ?_
          rintro e w' ⟨rfl, rfl⟩
          go_wp2_with fail
          go_ret
          exact ⟨rfl, rfl⟩
        · have hb : (((u : Nat) : Int) == 10) = false := by rw [beq_eq_false_iff_ne]; omega
          by_cases hs : 0 ≤ s
          · go_wp2_with fail
            refine HS.out.mono ?_
            rintro e w' ⟨rfl, rfl⟩
            go_wp2_with fail
            go_ret
            exact ⟨rfl, rfl⟩
          · have hd : decide (0 ≤ s) = false := by simp; omega
            go_wp2_with fail
            refine HS.out.mono ?_
            rintro e w' ⟨rfl, rfl⟩
            go_wp2_with fail
            go_ret
            exact ⟨rfl, rfl⟩
      · subst h4; subst h5
        have hd : decide (0 ≤ s) = false := by simp; omega
        have hb1 : (((p : Nat) : Int) == 6) = false := by rw [beq_eq_false_iff_ne]; omega
        have hb2 : (((p : Nat) : Int) == 4) = false := by rw [beq_eq_false_iff_ne]; omega
        clear h1 h2
        go_wp2_with fail
        refine HS.out.mono ?_
        rintro e w' ⟨rfl, rfl⟩
        go_wp2_with fail
        go_ret
        exact ⟨rfl, rfl⟩
      · subst h5
        have hb : (((u : Nat) : Int) == 10) = false := by rw [beq_eq_false_iff_ne]; omega
        have hb1 : (((p : Nat) : Int) == 6) = false := by rw [beq_eq_false_iff_ne]; omega
        have hb2 : (((p : Nat) : Int) == 4) = false := by rw [beq_eq_false_iff_ne]; omega
        clear h1 h2 h4
        go_wp2_with fail
        refine HS.out.mono ?_
        rintro e w' ⟨rfl, rfl⟩
        go_wp2_with fail
        refine HS.out.mono ?_
        rintro e w' ⟨rfl, rfl⟩
        go_wp2_with fail
        go_ret
        exact ⟨rfl, rfl⟩
      · subst h5
        have hd : decide (0 ≤ s) = false := by simp; omega
        have hb : (((u : Nat) : Int) == 10) = false := by rw [beq_eq_false_iff_ne]; omega
        have hb1 : (((p : Nat) : Int) == 6) = false := by rw [beq_eq_false_iff_ne]; omega
        have hb2 : (((p : Nat) : Int) == 4) = false := by rw [beq_eq_false_iff_ne]; omega
        clear h1 h2 h4
        go_wp2_with fail
        refine HS.out.mono ?_
        rintro e w' ⟨rfl, rfl⟩
        go_wp2_with fail
        refine HS.out.mono ?_
        rintro e w' ⟨rfl, rfl⟩
        go_wp2_with fail
        go_ret
        exact ⟨rfl, rfl⟩
end Go.Proofs.Ytllhgkacbpgemaa
