/- the walk of natFact -/
import Derived.Test.YtecfphohmgbddaaGreatDoorNat4
import Derived.Test.YtecfphohmgbddaaGreatDoorSlB
namespace Go.Proofs.YtecfphohmgbddaaGreatDoor
open Go.RowKit
set_option linter.unusedVariables false

set_option maxRecDepth 100000 in
theorem nf1 (w : World) (htab : TabPow w) : Calls Tryz.prog 16 #[.string ⟨#[57, 57, 57, 57, 57, 57, 57, 57, 57]⟩, .string ⟨#[49]⟩] w fun e w' => ∃ A, e = .returned (.tuple #[.string A, .int .i64 0]) ∧ A.toList = [49, 48, 48, 48, 48, 48, 48, 48, 48, 48] ∧ Ext w w' := by
  refine (natAdd_ok (⟨#[57, 57, 57, 57, 57, 57, 57, 57, 57]⟩ : ByteArray) (⟨#[49]⟩ : ByteArray) w htab (by decide) (by decide) (by decide +kernel)).mono ?_
  rintro e w' ⟨rfl, X⟩
  exact ⟨_, congrArg (fun z : Int => Ending.returned (.tuple #[.string _, .int .i64 z])) (by decide +kernel), by decide +kernel, X⟩
set_option maxRecDepth 100000 in
theorem nf2 (w : World) (htab : TabPow w) : Calls Tryz.prog 17 #[.string ⟨#[49, 48, 48, 48, 48, 48, 48, 48, 48, 48]⟩, .string ⟨#[49]⟩] w fun e w' => ∃ A, e = .returned (.tuple #[.string A, .int .i64 0]) ∧ A.toList = [57, 57, 57, 57, 57, 57, 57, 57, 57] ∧ Ext w w' := by
  refine (natSub_ok (⟨#[49, 48, 48, 48, 48, 48, 48, 48, 48, 48]⟩ : ByteArray) (⟨#[49]⟩ : ByteArray) w htab (by decide) (by decide) (by decide +kernel) (by decide +kernel)).mono ?_
  rintro e w' ⟨rfl, X⟩
  exact ⟨_, congrArg (fun z : Int => Ending.returned (.tuple #[.string _, .int .i64 z])) (by decide +kernel), by decide +kernel, X⟩
set_option maxRecDepth 100000 in
theorem nf3 (w : World) (htab : TabPow w) : Calls Tryz.prog 24 #[.string ⟨#[49, 48, 48, 48, 48, 48, 48, 48, 48, 48]⟩, .string ⟨#[49, 48, 48, 48, 48, 48, 48, 48, 48, 48]⟩] w fun e w' => ∃ A, e = .returned (.tuple #[.string A, .int .i64 0]) ∧ A.toList = [49, 48, 48, 48, 48, 48, 48, 48, 48, 48, 48, 48, 48, 48, 48, 48, 48, 48, 48] ∧ Ext w w' := by
  refine (natMul_ok (⟨#[49, 48, 48, 48, 48, 48, 48, 48, 48, 48]⟩ : ByteArray) (⟨#[49, 48, 48, 48, 48, 48, 48, 48, 48, 48]⟩ : ByteArray) w htab (by decide) (by decide) (by decide +kernel)).mono ?_
  rintro e w' ⟨rfl, X⟩
  exact ⟨_, congrArg (fun z : Int => Ending.returned (.tuple #[.string _, .int .i64 z])) (by decide +kernel), by decide +kernel, X⟩
set_option maxRecDepth 100000 in
theorem nf4 (w : World) (htab : TabPow w) : Calls Tryz.prog 25 #[.string ⟨#[49, 55]⟩, .string ⟨#[53]⟩] w fun e w' => ∃ A B, e = .returned (.tuple #[.string A, .string B, .int .i64 0]) ∧ A.toList = [51] ∧ B.toList = [50] ∧ Ext w w' := by
  refine (natDivide_ok (⟨#[49, 55]⟩ : ByteArray) (⟨#[53]⟩ : ByteArray) w htab (by decide) (by decide) (by decide +kernel) (by decide +kernel) (fun v u W hv hu => div_small v u _ _ W hv hu (by decide +kernel) (by decide +kernel) (by decide +kernel))).mono ?_
  rintro e w' ⟨rfl, X⟩
  exact ⟨_, _, rfl, by decide +kernel, by decide +kernel, X⟩
set_option maxRecDepth 100000 in
theorem nf5 (w : World) (htab : TabPow w) : Calls Tryz.prog 26 #[.string ⟨#[49, 50]⟩, .string ⟨#[49, 56]⟩] w fun e w' => ∃ A, e = .returned (.tuple #[.string A, .int .i64 0]) ∧ A.toList = [54] ∧ Ext w w' := by
  refine (natGcd_ok (⟨#[49, 50]⟩ : ByteArray) (⟨#[49, 56]⟩ : ByteArray) w htab (by decide) (by decide) (by decide +kernel) (fun v u W hv hu => gcd_small v u _ _ W hv hu (by decide +kernel) (by decide +kernel))).mono ?_
  rintro e w' ⟨rfl, X⟩
  exact ⟨_, congrArg (fun z : Int => Ending.returned (.tuple #[.string _, .int .i64 z])) (by decide +kernel), by decide +kernel, X⟩
set_option maxRecDepth 100000 in
theorem nf6 (w : World) (htab : TabPow w) : Calls Tryz.prog 62 #[.string ⟨#[57]⟩, .string ⟨#[49, 48]⟩] w fun e w' => e = .returned (.tuple #[.int .i64 (-1), .int .i64 0]) ∧ Ext w w' := by
  refine (natCompare_ok (⟨#[57]⟩ : ByteArray) (⟨#[49, 48]⟩ : ByteArray) w htab (by decide) (by decide) (by decide +kernel)).mono ?_
  rintro e w' ⟨rfl, X⟩
  exact ⟨congrArg (fun z : Int => Ending.returned (.tuple #[.int .i64 z, .int .i64 0])) (by decide +kernel), X⟩
set_option maxRecDepth 100000 in
theorem nf7 (w : World) (htab : TabPow w) : Calls Tryz.prog 30 #[.int .i64 5] w fun e w' => ∃ A, e = .returned (.tuple #[.string A, .int .i64 0]) ∧ A.toList = [49, 50, 48] ∧ Ext w w' := by
  refine (factorial_ok 5 w htab (by decide)).mono ?_
  rintro e w' ⟨rfl, X⟩
  exact ⟨_, congrArg (fun z : Int => Ending.returned (.tuple #[.string _, .int .i64 z])) (by decide +kernel), by decide +kernel, X⟩
set_option maxRecDepth 100000 in
theorem nf8 (w : World) (htab : TabPow w) : Calls Tryz.prog 31 #[.int .i64 5, .int .i64 2] w fun e w' => ∃ A, e = .returned (.tuple #[.string A, .int .i64 0]) ∧ A.toList = [49, 48] ∧ Ext w w' := by
  refine (binomial_ok 5 2 w htab (by decide) (by decide) (fun v u W hv hu => div_small v u _ _ W hv hu (by decide +kernel) (by decide +kernel) (by decide +kernel))).mono ?_
  rintro e w' ⟨rfl, X⟩
  exact ⟨_, congrArg (fun z : Int => Ending.returned (.tuple #[.string _, .int .i64 z])) (by decide +kernel), by decide +kernel, X⟩

set_option maxHeartbeats 3200000 in
set_option maxRecDepth 100000 in
theorem natFact_any (w : World) (htab : TabPow w) : Calls Tryz.prog 13 #[] w fun e w' => e = .returned (.bool true) ∧ Ext w w' := by
  have H1 := Lib.hid (fun W (hx : Ext w W) => nf1 W (tabPow_ext htab hx))
  have H2 := Lib.hid (fun W (hx : Ext w W) => nf2 W (tabPow_ext htab hx))
  have H3 := Lib.hid (fun W (hx : Ext w W) => nf3 W (tabPow_ext htab hx))
  have H4 := Lib.hid (fun W (hx : Ext w W) => nf4 W (tabPow_ext htab hx))
  have H5 := Lib.hid (fun W (hx : Ext w W) => nf5 W (tabPow_ext htab hx))
  have H6 := Lib.hid (fun W (hx : Ext w W) => nf6 W (tabPow_ext htab hx))
  have H7 := Lib.hid (fun W (hx : Ext w W) => nf7 W (tabPow_ext htab hx))
  have H8 := Lib.hid (fun W (hx : Ext w W) => nf8 W (tabPow_ext htab hx))
  have H9 := Lib.hid (fun W => natCheck_any (⟨#[48, 48, 55]⟩ : ByteArray) W (by decide) 5 (by show _ = _; decide +kernel))
  clear htab
  have E0 := Ext.refl w
  go_enter Tryz.func13, Tryz.ntmps13
  go_wp2_with fail
  refine (H1.out _ E0).mono ?_
  rintro e w1 ⟨A1, rfl, a1, X1⟩
  have E1 := E0.trans X1
  clear E0 X1
  go_wp2_with fail
  refine (H2.out _ E1).mono ?_
  rintro e w2 ⟨A2, rfl, a2, X2⟩
  have E2 := E1.trans X2
  clear E1 X2
  go_wp2_with fail
  refine (H3.out _ E2).mono ?_
  rintro e w3 ⟨A3, rfl, a3, X3⟩
  have E3 := E2.trans X3
  clear E2 X3
  go_wp2_with fail
  refine (H4.out _ E3).mono ?_
  rintro e w4 ⟨A4, B4, rfl, a4, b4, X4⟩
  have E4 := E3.trans X4
  clear E3 X4
  go_wp2_with fail
  refine (H5.out _ E4).mono ?_
  rintro e w5 ⟨A5, rfl, a5, X5⟩
  have E5 := E4.trans X5
  clear E4 X5
  go_wp2_with fail
  refine (H6.out _ E5).mono ?_
  rintro e w6 ⟨rfl, X6⟩
  have E6 := E5.trans X6
  clear E5 X6
  go_wp2_with fail
  refine (H7.out _ E6).mono ?_
  rintro e w7 ⟨A7, rfl, a7, X7⟩
  have E7 := E6.trans X7
  clear E6 X7
  go_wp2_with fail
  refine (H8.out _ E7).mono ?_
  rintro e w8 ⟨A8, rfl, a8, X8⟩
  have E8 := E7.trans X8
  clear E7 X8
  go_wp2_with fail
  refine (fine_any _ [0, 0, 0, 0, 0, 0, 0, 0] _ (by exact lit_ints_at _ _ ([0, 0, 0, 0, 0, 0, 0, 0] : List Int) (by decide) _ (by first | rfl | simp)) true rfl).mono ?_
  rintro e w9 ⟨rfl, X9⟩
  have E9 := E8.trans (((Ext.refl _).alloc _).trans X9)
  clear E8 X9
  go_wp2_with fail
  refine (H9.out _).mono ?_
  rintro e w10 ⟨rfl, X10⟩
  go_wp2_with fail
  go_ret
  exact ⟨rfl, E9.trans X10⟩
end Go.Proofs.YtecfphohmgbddaaGreatDoor
