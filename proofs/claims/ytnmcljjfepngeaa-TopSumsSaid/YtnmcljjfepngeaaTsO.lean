/- walks: nimsum.Sum, bFine -/
import Derived.Test.YtnmcljjfepngeaaTsN
namespace Go.Proofs.Ytnmcljjfepngeaa
open Go.RowKit Go.Maps
set_option linter.unusedVariables false

theorem xor_small {a b : Nat} (ha : a < 16) (hb : b < 16) : bits .xor .i64 (a : Int) (b : Int) = ((a ^^^ b : Nat) : Int) := by
  have h : ∀ a : Fin 16, ∀ b : Fin 16, bits .xor .i64 ((a.val : Nat) : Int) ((b.val : Nat) : Int) = ((a.val ^^^ b.val : Nat) : Int) := by decide +kernel
  exact h ⟨a, ha⟩ ⟨b, hb⟩

set_option maxHeartbeats 1600000 in
set_option maxRecDepth 100000 in
theorem sum2_any (v : Value) (a b : Nat) (w : World) (ha : a < 16) (hb : b < 16) (hv : RowOf encI w v [a, b]) :
    Calls Try.prog 5 #[v] w fun e w' => e = .returned (.int .i64 (a ^^^ b : Nat)) ∧ Ext w w' := by
  obtain ⟨ao, c, rfl, _, hc⟩ := hv.open
  have HC := Lib.hid hc
  obtain ⟨wo, rfl⟩ : ∃ wo : World, wo = w := ⟨_, rfl⟩
  clear hv hc
  go_enter Try.func5, Try.ntmps5
  go_wp2_with fail
  go_loopw [3, 8] (fun sv iv wr => ∃ i : Nat, i ≤ 2 ∧ iv = .int .i64 i ∧ sv = .int .i64 ((if i = 0 then 0 else if i = 1 then a else a ^^^ b : Nat) : Int) ∧ Ext wo wr) (fun _ iv _ => 2 - (intOf iv).toNat)
  case atStart => exact ⟨0, by omega, rfl, rfl, Ext.refl _⟩
  case round =>
    obtain ⟨i, hi, rfl, rfl, X⟩ := hrel
    by_cases h0 : i = 0
    · subst h0
      have hx := xor_small (a := 0) (b := a) (by omega) ha
      rw [Nat.zero_xor] at hx
      have hx' : bits .xor .i64 0 (a : Int) = (a : Int) := hx
      obtain ⟨kb, off, rfl, hc0⟩ := (HC.out.ext X).at (i := 0) (x := a) rfl
      have hcell : wr.cell? ⟨kb, off, none⟩ = some (.int .i64 (a : Int)) := hc0
      clear hc0 hx
      go_wp2_with fail
      go_roundw
      case rel => exact ⟨1, by omega, by go_num, by simp [hx'], X⟩
      case measure => simp [intOf]
    · by_cases h1 : i = 1
      · subst h1
        have hx := xor_small ha hb
        obtain ⟨kb, off, rfl, hc0⟩ := (HC.out.ext X).at (i := 1) (x := b) rfl
        have hcell : wr.cell? ⟨kb, off + 1, none⟩ = some (.int .i64 (b : Int)) := hc0
        clear hc0
        go_wp2_with fail
        go_roundw
        case rel => exact ⟨2, by omega, by go_num, by simp [hx], X⟩
        case measure => simp [intOf]
      · have h2 : i = 2 := by omega
        subst h2
        go_wp2_with fail
        go_ret
        exact ⟨by simp, X⟩

set_option maxHeartbeats 400000 in
theorem bFine1_any (x : Int) (W : World) : Calls Try.prog 14 #[.int .i64 x] W fun e W' => e = .returned (.bool (x != 0)) ∧ Ext W W' := by
  go_enter Try.func14, Try.ntmps14
  go_wp2_with fail
  go_ret
  exact ⟨rfl, Ext.refl _⟩

set_option maxHeartbeats 400000 in
theorem bFine_any (v : Value) (w : World) (hv : Ints w v [0, 0, 0]) :
    Calls Try.prog 9 #[v] w fun e w' => e = .returned (.bool true) ∧ Ext w w' := by
  have HD := Lib.hid (containsFunc_errs v ([0, 0, 0].map (Value.int .i64)) [false, false, false] 14 #[] w hv (by simp) (fun _ _ => by kernel_rfl)
    (fun i u q W h1 h2 hx => by
      simp only [List.getElem?_map, Option.map_eq_some_iff] at h1
      obtain ⟨x, h3, rfl⟩ := h1
      have e : x = 0 ∧ q = false := by
        match i with
        | 0 => simp at h2 h3; exact ⟨h3.symm, h2⟩
        | 1 => simp at h2 h3; exact ⟨h3.symm, h2⟩
        | 2 => simp at h2 h3; exact ⟨h3.symm, h2⟩
        | n + 3 => simp at h3
      obtain ⟨rfl, rfl⟩ := e
      exact bFine1_any 0 W) false rfl)
  clear hv
  go_enter Try.func9, Try.ntmps9
  go_wp2_with fail
  refine HD.out.mono ?_
  rintro e w' ⟨rfl, hx⟩
  go_wp2_with fail
  go_ret
  exact ⟨rfl, hx⟩
end Go.Proofs.Ytnmcljjfepngeaa
