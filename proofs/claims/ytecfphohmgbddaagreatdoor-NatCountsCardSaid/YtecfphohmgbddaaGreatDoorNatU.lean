/- the walk of the law NatSums -/
import Derived.Test.YtecfphohmgbddaaGreatDoorNatT
namespace Go.Proofs.YtecfphohmgbddaaGreatDoor
open Go.RowKit
set_option linter.unusedVariables false

theorem firstF_two (a b : ByteArray) : firstF [natErr a, natErr b] = twoErr a b := by
  unfold twoErr
  simp only [firstF]
  split
  · rfl
  · split
    · rfl
    · rename_i h; omega

theorem ddP {n k : Nat} (h : n < tenP (k + 1)) : (Lib.decDigits n).length ≤ k + 1 := dd_len_lt h
theorem resF_small {n : Nat} (h : n < tenP (1999 + 1)) : resF n = (decT n, 0) := by
  have h2 := ddP h
  unfold resF
  rw [if_neg (by omega)]

set_option maxHeartbeats 1600000 in
set_option maxRecDepth 100000 in
theorem natSums_walk (a b : ByteArray) (w : World) (ha : a.size ≤ 9223372036854775807) (hb : b.size ≤ 9223372036854775807) (htab : TabPow w) :
    Calls Tryz.prog 4 #[.string a, .string b] w fun e w' => e = .returned (.bool true) ∧ Ext w w' := by
  have HF := Lib.hid (natFact_any w htab)
  obtain ⟨qa, hqa⟩ : ∃ q, natErr a = q := ⟨_, rfl⟩
  obtain ⟨qb, hqb⟩ : ∃ q, natErr b = q := ⟨_, rfl⟩
  have HEA := Lib.hid (fun W => natError_any a W ha qa hqa)
  have HEB := Lib.hid (fun W => natError_any b W hb qb hqb)
  have hft := firstF_two a b
  rw [hqa, hqb] at hft
  by_cases h : twoErr a b = 0
  · have HL := Lib.hid (fun v W (hv : Ints W v [qa, qb]) => first_any v [qa, qb] W hv 0 (by show _ = _; rw [hft, h]))
    obtain ⟨h1, h2⟩ := twoErr_zero h
    have ca := (natErr_zero h1).1
    have cb := (natErr_zero h2).1
    have sa := (natErr_zero h1).2
    have sb := (natErr_zero h2).2
    have hA := natErr_dig h1
    have hB := natErr_dig h2
    have HAdd := Lib.hid (fun W (hx : Ext w W) => natAdd_ok a b W (tabPow_ext htab hx) ha hb h)
    have HRA := Lib.hid (fun W => rNatAdd_any a b W ca.1 cb.1 (by omega) (by omega))
    have HN := Lib.hid (fun W => natural_any (numB a + numB b) W (by have := ddP (sum_lt hA hB); omega))
    have HC := Lib.hid (fun W => rNatCmp_any a b W ca cb (by omega) (by omega))
    obtain ⟨T, hT⟩ : ∃ T, decT (numB a + numB b) = T := ⟨_, rfl⟩
    obtain ⟨R, hR⟩ : ∃ R, resF (numB a + numB b) = R := ⟨_, rfl⟩
    rw [hR] at HAdd HN
    rw [hT] at HRA HN
    obtain ⟨s, f⟩ := R
    by_cases hlt : numB a < numB b
    · have HSub := Lib.hid (fun W (hx : Ext w W) => natSub_lt a b W (tabPow_ext htab hx) ha hb h hlt)
      rw [show cmpZ (numB a) (numB b) = -1 by unfold cmpZ; rw [if_pos hlt]] at HC
      clear htab h hft h1 h2 ca cb sa sb hA hB hT hR hlt hqa hqb
      go_enter Tryz.func4, Tryz.ntmps4
      go_wp2_with fail
      refine HF.out.mono ?_
      rintro e w1 ⟨rfl, X1⟩
      go_wp2_with fail
      refine (HAdd.out _ X1).mono ?_
      rintro e w2 ⟨rfl, X2⟩
      have E2 := X1.trans X2
      go_wp2_with fail
      refine (HSub.out _ E2).mono ?_
      rintro e w3 ⟨rfl, X3⟩
      have E3 := E2.trans X3
      clear X1 X2 E2 X3
      go_wp2_with fail
      refine (HEA.out _).mono ?_
      rintro e w4 ⟨rfl, X4⟩
      go_wp2_with fail
      refine (HEB.out _).mono ?_
      rintro e w5 ⟨rfl, X5⟩
      have E5 := (E3.trans X4).trans X5
      clear E3 X4 X5
      go_wp2_with fail
      refine (HL.out _ _ (by exact lit_ints_at _ _ ([qa, qb] : List Int) (by simp) _ (by first | rfl | simp))).mono ?_
      rintro e w6 ⟨rfl, rfl⟩
      have E6 := E5.alloc (.cells #[.int .i64 qa, .int .i64 qb] 23)
      go_wp2_with fail
      refine (HRA.out _).mono ?_
      rintro e w7 ⟨rfl, X7⟩
      go_wp2_with fail
      refine (HN.out _).mono ?_
      rintro e w8 ⟨rfl, rfl⟩
      go_wp2_with fail
      refine (HC.out _).mono ?_
      rintro e w9 ⟨rfl, rfl⟩
      go_wp2_with fail
      go_ret
      exact ⟨rfl, E6.trans X7⟩
    · have hle : numB b ≤ numB a := by omega
      have HSub := Lib.hid (fun W (hx : Ext w W) => natSub_ok a b W (tabPow_ext htab hx) ha hb h hle)
      rw [resF_small (n := numB a - numB b) (Nat.lt_of_le_of_lt (Nat.sub_le _ _) hA)] at HSub
      have HRS := Lib.hid (fun W => rNatSub_any a b W ca.1 cb.1 (by omega) (by omega) hle)
      obtain ⟨D, hD⟩ : ∃ D, decT (numB a - numB b) = D := ⟨_, rfl⟩
      rw [hD] at HSub HRS
      obtain ⟨c, hc⟩ : ∃ c, cmpZ (numB a) (numB b) = c := ⟨_, rfl⟩
      rw [hc] at HC
      have hc0 : 0 ≤ c := by
        rw [← hc]; unfold cmpZ; rw [if_neg hlt]; split <;> omega
      clear htab h hft h1 h2 ca cb sa sb hA hB hT hR hlt hqa hqb hle hD hc
      go_enter Tryz.func4, Tryz.ntmps4
      go_wp2_with fail
      refine HF.out.mono ?_
      rintro e w1 ⟨rfl, X1⟩
      go_wp2_with fail
      refine (HAdd.out _ X1).mono ?_
      rintro e w2 ⟨rfl, X2⟩
      have E2 := X1.trans X2
      go_wp2_with fail
      refine (HSub.out _ E2).mono ?_
      rintro e w3 ⟨rfl, X3⟩
      have E3 := E2.trans X3
      clear X1 X2 E2 X3
      go_wp2_with fail
      refine (HEA.out _).mono ?_
      rintro e w4 ⟨rfl, X4⟩
      go_wp2_with fail
      refine (HEB.out _).mono ?_
      rintro e w5 ⟨rfl, X5⟩
      have E5 := (E3.trans X4).trans X5
      clear E3 X4 X5
      go_wp2_with fail
      refine (HL.out _ _ (by exact lit_ints_at _ _ ([qa, qb] : List Int) (by simp) _ (by first | rfl | simp))).mono ?_
      rintro e w6 ⟨rfl, rfl⟩
      have E6 := E5.alloc (.cells #[.int .i64 qa, .int .i64 qb] 23)
      go_wp2_with fail
      refine (HRA.out _).mono ?_
      rintro e w7 ⟨rfl, X7⟩
      go_wp2_with fail
      refine (HN.out _).mono ?_
      rintro e w8 ⟨rfl, rfl⟩
      go_wp2_with fail
      refine (HC.out _).mono ?_
      rintro e w9 ⟨rfl, rfl⟩
      go_wp2_with fail
      refine (HRS.out _).mono ?_
      rintro e w10 ⟨rfl, X10⟩
      go_wp2_with fail
      go_ret
      exact ⟨by first | rfl | simp, (E6.trans X7).trans X10⟩
  · have HL := Lib.hid (fun v W (hv : Ints W v [qa, qb]) => first_any v [qa, qb] W hv (twoErr a b) hft)
    have HAdd := Lib.hid (fun W => natAdd_err a b W ha hb h)
    have HSub := Lib.hid (fun W => natSub_err a b W ha hb h)
    generalize twoErr a b = p at *
    have hpb : (p != 0) = true := by simp [h]
    clear htab h hft hqa hqb
    go_enter Tryz.func4, Tryz.ntmps4
    go_wp2_with fail
    refine HF.out.mono ?_
    rintro e w1 ⟨rfl, X1⟩
    go_wp2_with fail
    refine (HAdd.out _).mono ?_
    rintro e w2 ⟨rfl, X2⟩
    have E2 := X1.trans X2
    go_wp2_with fail
    refine (HSub.out _).mono ?_
    rintro e w3 ⟨rfl, X3⟩
    have E3 := E2.trans X3
    clear X1 X2 E2 X3
    go_wp2_with fail
    refine (HEA.out _).mono ?_
    rintro e w4 ⟨rfl, X4⟩
    go_wp2_with fail
    refine (HEB.out _).mono ?_
    rintro e w5 ⟨rfl, X5⟩
    have E5 := (E3.trans X4).trans X5
    clear E3 X4 X5
    go_wp2_with fail
    refine (HL.out _ _ (by exact lit_ints_at _ _ ([qa, qb] : List Int) (by simp) _ (by first | rfl | simp))).mono ?_
    rintro e w6 ⟨rfl, rfl⟩
    have E6 := E5.alloc (.cells #[.int .i64 qa, .int .i64 qb] 23)
    go_wp2_with fail
    go_ret
    exact ⟨by first | rfl | simp, E6⟩
end Go.Proofs.YtecfphohmgbddaaGreatDoor
