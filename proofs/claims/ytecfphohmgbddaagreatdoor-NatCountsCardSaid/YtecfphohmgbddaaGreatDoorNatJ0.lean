/- walks: the law NatCounts -/
import Derived.Test.YtecfphohmgbddaaGreatDoorNatU
import Derived.Test.YtecfphohmgbddaaGreatDoorNatW
import Derived.Test.YtecfphohmgbddaaGreatDoorNatM
import Derived.Test.YtecfphohmgbddaaGreatDoorNatI
import Derived.Test.YtecfphohmgbddaaGreatDoorNatZ
import Derived.Test.YtecfphohmgbddaaGreatDoorBig15
import Derived.Test.YtecfphohmgbddaaGreatDoorStepApp
namespace Go.Proofs.YtecfphohmgbddaaGreatDoor
open Go.RowKit
set_option linter.unusedVariables false

theorem resF_cases (n : Nat) : (resF n = (⟨#[]⟩, 2)) ∨ (resF n = (decT n, 0)) := by
  unfold resF
  split
  · exact .inl rfl
  · exact .inr rfl
theorem prodF_small {n : Nat} (h : n ≤ 25) : resF (prodF 1 n) = (decT (prodF 1 n), 0) := by
  apply resF_small
  have h1 := prodF_le (lo := 1) (B := 1000) (d := n) (by omega) (by omega)
  have h2 := thousand n
  exact Nat.lt_of_le_of_lt (Nat.le_trans h1 h2) (Nat.lt_of_le_of_lt (tenP_le (show 3 * n ≤ 75 by omega)) (by decide +kernel))
theorem prodF_size {n : Nat} (h : n ≤ 25) : (decT (prodF 1 n)).size ≤ 100 := by
  rw [decT_size]
  apply dd_len_lt (k := 99)
  have h1 := prodF_le (lo := 1) (B := 1000) (d := n) (by omega) (by omega)
  have h2 := thousand n
  exact Nat.lt_of_le_of_lt (Nat.le_trans h1 h2) (Nat.lt_of_le_of_lt (tenP_le (show 3 * n ≤ 75 by omega)) (by decide +kernel))
theorem dig_small {n k : Nat} (h : n < tenP (k + 1)) (hk : k ≤ 1000000) : (dig n).length ≤ 1000001 := by
  have h1 := dig_len_lt (Nat.lt_of_lt_of_le h (pow10_B (k + 1)))
  omega
theorem binAt {n k : Nat} (hn : n ≤ 1000) (hk : k ≤ n) : DivAt (prodF (n - k + 1) k) (prodF 1 k) :=
  divAt_any _ _ (prodF_pos 1 k (by omega)) (by
    have h1 := dig_small (k := 4000) (prod_len (lo := n - k + 1) (d := k) (by omega) (by omega)) (by omega)
    omega)
theorem decT_one : decT 1 = ⟨#[49]⟩ := by rw [decT, dd_small (by omega)]; rfl

set_option maxHeartbeats 3200000 in
set_option maxRecDepth 100000 in
theorem natCounts_bad (n k : Int) (w : World) (htab : TabPow w) (h : n < 0 ∨ 1000 < n) :
    Calls Tryz.prog 6 #[.int .i64 n, .int .i64 k] w fun e w' => e = .returned (.bool true) ∧ Ext w w' := by
  have HF := Lib.hid (natFact_any w htab)
  have HFAC := Lib.hid (fun W (_ : Ext w W) => factorial_bad n W h)
  have HBIN := Lib.hid (fun W (_ : Ext w W) => binomial_bad n k W (by omega))
  have h : n < 0 ∨ (0 ≤ n ∧ 1000 < n) := by omega
  clear htab
  rcases h with h | ⟨h0, h⟩
  all_goals
    go_enter Tryz.func6, Tryz.ntmps6
    go_wp2_with fail
    refine HF.out.mono ?_
    rintro e w1 ⟨rfl, X1⟩
    go_wp2_with fail
    refine (HFAC.out _ X1).mono ?_
    rintro e w2 ⟨rfl, X2⟩
    have E2 := X1.trans X2
    go_wp2_with fail
    refine (HBIN.out _ E2).mono ?_
    rintro e w3 ⟨rfl, X3⟩
    have E3 := E2.trans X3
    clear X1 X2 E2 X3
    go_wp2_with fail
    go_ret
    exact ⟨by first | rfl | simp, E3⟩

set_option maxHeartbeats 3200000 in
set_option maxRecDepth 100000 in
theorem natCounts_big0 (n : Nat) (k : Int) (w : World) (htab : TabPow w) (hn : n ≤ 1000) (hb : 25 < n) (hk : k < 0 ∨ (n : Int) < k) :
    Calls Tryz.prog 6 #[.int .i64 n, .int .i64 k] w fun e w' => e = .returned (.bool true) ∧ Ext w w' := by
  have HF := Lib.hid (natFact_any w htab)
  have HBIN := Lib.hid (fun W (_ : Ext w W) => binomial_bad (n : Int) k W (by omega))
  have hn0 : (0 : Int) ≤ (n : Int) := by omega
  have hni : (n : Int) ≤ 1000 := by omega
  have hbi : (25 : Int) < (n : Int) := by omega
  have hk : k < 0 ∨ (0 ≤ k ∧ (n : Int) < k) := by omega
  have HFAC := Lib.hid (fun W (hx : Ext w W) => factorial_ok n W (tabPow_ext htab hx) hn)
  rcases resF_cases (prodF 1 n) with hr | hr
  all_goals
    rw [hr] at HFAC
    generalize prodF 1 n = P at *
    clear hr
    generalize decT P = T at *
    clear htab hn hb
    rcases hk with hk | ⟨hk0, hk⟩
    all_goals
      go_enter Tryz.func6, Tryz.ntmps6
      go_wp2_with fail
      refine HF.out.mono ?_
      rintro e w1 ⟨rfl, X1⟩
      go_wp2_with fail
      refine (HFAC.out _ X1).mono ?_
      rintro e w2 ⟨rfl, X2⟩
      have E2 := X1.trans X2
      go_wp2_with fail
      refine (HBIN.out _ E2).mono ?_
      rintro e w3 ⟨rfl, X3⟩
      have E3 := E2.trans X3
      clear X1 X2 E2 X3
      go_wp2_with fail
      go_ret
      exact ⟨by first | rfl | simp, E3⟩

set_option maxHeartbeats 3200000 in
set_option maxRecDepth 100000 in
theorem natCounts_big1 (n k : Nat) (w : World) (htab : TabPow w) (hn : n ≤ 1000) (hb : 25 < n) (hk : k ≤ n) :
    Calls Tryz.prog 6 #[.int .i64 n, .int .i64 k] w fun e w' => e = .returned (.bool true) ∧ Ext w w' := by
  have HF := Lib.hid (natFact_any w htab)
  have HBIN := Lib.hid (fun W (hx : Ext w W) => binomial_ok n k W (tabPow_ext htab hx) hn hk (binAt hn hk))
  have hn0 : (0 : Int) ≤ (n : Int) := by omega
  have hni : (n : Int) ≤ 1000 := by omega
  have hbi : (25 : Int) < (n : Int) := by omega
  have hk0 : (0 : Int) ≤ (k : Int) := by omega
  have hki : (k : Int) ≤ (n : Int) := by omega
  obtain ⟨D, hD⟩ : ∃ D, decT (prodF (n - k + 1) k / prodF 1 k) = D := ⟨_, rfl⟩
  rw [hD] at HBIN
  clear hD
  have HFAC := Lib.hid (fun W (hx : Ext w W) => factorial_ok n W (tabPow_ext htab hx) hn)
  rcases resF_cases (prodF 1 n) with hr | hr
  all_goals
    rw [hr] at HFAC
    generalize prodF 1 n = P at *
    clear hr
    generalize decT P = T at *
    clear htab hn hb hk
    go_enter Tryz.func6, Tryz.ntmps6
    go_wp2_with fail
    refine HF.out.mono ?_
    rintro e w1 ⟨rfl, X1⟩
    go_wp2_with fail
    refine (HFAC.out _ X1).mono ?_
    rintro e w2 ⟨rfl, X2⟩
    have E2 := X1.trans X2
    go_wp2_with fail
    refine (HBIN.out _ E2).mono ?_
    rintro e w3 ⟨rfl, X3⟩
    have E3 := E2.trans X3
    clear X1 X2 E2 X3
    go_wp2_with fail
    go_ret
    exact ⟨by first | rfl | simp, E3⟩

theorem lit_own (w : World) (e : TypeId) (x : Value) : (w.alloc (.cells #[x] e)).ownsRow w.heap.size e 1 (.slice (some ⟨w.heap.size, 0, none⟩) 1 1) 1 [x] :=
  World.ownsRow_lit (base := w.heap.size) (e := e) (size := 1) w #[x] 1 (Nat.le_refl _) (by unfold maxLen; omega) (by simp)
end Go.Proofs.YtecfphohmgbddaaGreatDoor
