/- walks of package nat: Factorial, Binomial -/
import Derived.Test.YtecfphohmgbddaaGreatDoorNat3
namespace Go.Proofs.YtecfphohmgbddaaGreatDoor
open Go.RowKit
set_option linter.unusedVariables false

set_option maxHeartbeats 800000 in
set_option maxRecDepth 100000 in
theorem factorial_bad (n : Int) (w : World) (h : n < 0 ∨ 1000 < n) :
    Calls Tryz.prog 30 #[.int .i64 n] w fun e w' => e = .returned (.tuple #[.string ⟨#[]⟩, .int .i64 4]) ∧ Ext w w' := by
  have h : n < 0 ∨ (0 ≤ n ∧ 1000 < n) := by omega
  rcases h with h | ⟨h0, h⟩
  all_goals
    go_enter Tryz.func30, Tryz.ntmps30
    go_wp2_with fail
    go_ret2
    exact ⟨rfl, Ext.refl _⟩

set_option maxHeartbeats 800000 in
set_option maxRecDepth 100000 in
theorem factorial_ok (n : Nat) (w : World) (htab : TabPow w) (h : n ≤ 1000) :
    Calls Tryz.prog 30 #[.int .i64 n] w fun e w' => e = .returned (.tuple #[.string (resF (prodF 1 n)).1, .int .i64 (resF (prodF 1 n)).2]) ∧ Ext w w' := by
  have HP := Lib.hid (fun W => product_any 1 n n W (by omega) (by omega) h)
  obtain ⟨l1, l2⟩ := small_lens (prod_len (lo := 1) (d := n) (by omega) h) (by omega)
  have HR := Lib.hid (fun (r : Value) W (hx : Ext w W) (hr : NatV W r (prodF 1 n)) => result_any r _ W hr (tabPow_ext htab hx) l1 l2)
  have hn1 : (n : Int) ≤ 1000 := by omega
  generalize prodF 1 n = P at *
  obtain ⟨s, hs⟩ : ∃ s, resF P = s := ⟨_, rfl⟩
  rw [hs] at HR ⊢
  clear htab h l1 l2 hs
  go_enter Tryz.func30, Tryz.ntmps30
  go_wp2_with fail
  refine (HP.out _).mono ?_
  rintro e w1 ⟨u, rfl, hu, X1⟩
  go_wp2_with fail
  refine (HR.out u _ X1 hu).mono ?_
  rintro e w2 ⟨rfl, X2⟩
  go_wp2_with fail
  go_ret2
  exact ⟨rfl, X1.trans X2⟩

set_option maxHeartbeats 800000 in
set_option maxRecDepth 100000 in
theorem binomial_bad (n k : Int) (w : World) (h : n < 0 ∨ 1000 < n ∨ k < 0 ∨ n < k) :
    Calls Tryz.prog 31 #[.int .i64 n, .int .i64 k] w fun e w' => e = .returned (.tuple #[.string ⟨#[]⟩, .int .i64 4]) ∧ Ext w w' := by
  have h : n < 0 ∨ (0 ≤ n ∧ 1000 < n) ∨ (0 ≤ n ∧ n ≤ 1000 ∧ k < 0) ∨ (0 ≤ n ∧ n ≤ 1000 ∧ 0 ≤ k ∧ n < k) := by omega
  rcases h with h | ⟨h0, h⟩ | ⟨h0, h1, h⟩ | ⟨h0, h1, h2, h⟩
  all_goals
    go_enter Tryz.func31, Tryz.ntmps31
    go_wp2_with fail
    go_ret2
    exact ⟨rfl, Ext.refl _⟩

theorem prodF_pos (lo d : Nat) (h : 0 < lo) : 0 < prodF lo d := by
  induction d with
  | zero => exact Nat.one_pos
  | succ d ih => rw [prodF]; exact Nat.mul_pos ih (by omega)

set_option maxHeartbeats 800000 in
set_option maxRecDepth 100000 in
theorem binomial_ok (n k : Nat) (w : World) (htab : TabPow w) (hn : n ≤ 1000) (hk : k ≤ n) (hD : DivAt (prodF (n - k + 1) k) (prodF 1 k)) :
    Calls Tryz.prog 31 #[.int .i64 n, .int .i64 k] w fun e w' => e = .returned (.tuple #[.string (decT (prodF (n - k + 1) k / prodF 1 k)), .int .i64 0]) ∧ Ext w w' := by
  obtain ⟨lo, hlo⟩ : ∃ lo, n - k + 1 = lo := ⟨_, rfl⟩
  rw [hlo] at hD ⊢
  have HP := Lib.hid (fun W => product_any lo k n W (by omega) (by omega) (by omega))
  have HQ := Lib.hid (fun W => product_any 1 k k W (by omega) (by omega) (by omega))
  obtain ⟨l1, l2⟩ := small_lens (n := prodF lo k / prodF 1 k) (k := 4000) (Nat.lt_of_le_of_lt (Nat.div_le_self _ _) (prod_len (lo := lo) (d := k) (by omega) (by omega))) (by omega)
  have HR := Lib.hid (fun (r : Value) W (hx : Ext w W) (hr : NatV W r (prodF lo k / prodF 1 k)) => text_any r _ W hr (tabPow_ext htab hx) l1 l2)
  have HD := Lib.hid hD
  have hn1 : (n : Int) ≤ 1000 := by omega
  have hkn : (k : Int) ≤ (n : Int) := by omega
  have hli : (n : Int) - (k : Int) + 1 = (lo : Int) := by omega
  generalize prodF lo k = P at *
  generalize prodF 1 k = Q at *
  obtain ⟨s, hs⟩ : ∃ s, decT (P / Q) = s := ⟨_, rfl⟩
  rw [hs] at HR ⊢
  clear htab hn hk l1 l2 hs hD hlo
  go_enter Tryz.func31, Tryz.ntmps31
  go_wp2_with fail
  refine (HP.out _).mono ?_
  rintro e w1 ⟨u, rfl, hu, X1⟩
  go_wp2_with fail
  refine (HQ.out _).mono ?_
  rintro e w2 ⟨v, rfl, hv, X2⟩
  go_wp2_with fail
  refine (HD.out u v _ (hu.ext X2) hv).mono ?_
  rintro e w3 ⟨x, y, rfl, hx, hy, X3⟩
  go_wp2_with fail
  refine (HR.out x _ ((X1.trans X2).trans X3) hx).mono ?_
  rintro e w4 ⟨rfl, X4⟩
  go_wp2_with fail
  go_ret2
  exact ⟨rfl, ((X1.trans X2).trans X3).trans X4⟩
end Go.Proofs.YtecfphohmgbddaaGreatDoor
