/- walks of the reference: RatNeg, RatAdd, RatSub, RatMul, RatDiv, RatSign, RatCmp, RatFloor -/
import Derived.Test.YtmmdfijjpeglgaaGreatDoorRatAF
namespace Go.Proofs.YtmmdfijjpeglgaaGreatDoor
open Go.RowKit
set_option linter.unusedVariables false


set_option maxHeartbeats 1600000 in
set_option maxRecDepth 100000 in
theorem rneg_leaf (T N D Q : ByteArray) (p : Bool) (w : World)
    (HP : Hid (∀ W, Calls Tryz.prog 82 #[.string T] W fun e w' => e = .returned (.tuple #[.bool p, .string N, .string D]) ∧ Ext W w'))
    (HC : Hid (∀ W, Calls Tryz.prog 83 #[.bool (!p), .string N, .string D] W fun e w' => e = .returned (.string Q) ∧ Ext W w')) :
    Calls Tryz.prog 29 #[.string T] w fun e w' => e = .returned (.string Q) ∧ Ext w w' := by
  cases p <;>
  (
    go_enter Tryz.func29, Tryz.ntmps29
    go_wp2_with fail
    refine (HP.out _).mono ?_
    rintro e w2 ⟨rfl, X2⟩
    go_wp2_with fail
    refine (HC.out _).mono ?_
    rintro e w3 ⟨rfl, X3⟩
    go_wp2_with fail
    go_ret
    exact ⟨rfl, (X2.trans X3)⟩)

set_option maxHeartbeats 1600000 in
set_option maxRecDepth 100000 in
theorem ratMul_leaf (T1 T2 N D M F X Y Q : ByteArray) (p q : Bool) (w : World)
    (HP1 : Hid (∀ W, Calls Tryz.prog 82 #[.string T1] W fun e w' => e = .returned (.tuple #[.bool p, .string N, .string D]) ∧ Ext W w'))
    (HP2 : Hid (∀ W, Calls Tryz.prog 82 #[.string T2] W fun e w' => e = .returned (.tuple #[.bool q, .string M, .string F]) ∧ Ext W w'))
    (HM1 : Hid (∀ W, Calls Tryz.prog 84 #[.string N, .string M] W fun e w' => e = .returned (.string X) ∧ Ext W w'))
    (HM2 : Hid (∀ W, Calls Tryz.prog 84 #[.string D, .string F] W fun e w' => e = .returned (.string Y) ∧ Ext W w'))
    (HC : Hid (∀ W, Calls Tryz.prog 83 #[.bool (p != q), .string X, .string Y] W fun e w' => e = .returned (.string Q) ∧ Ext W w')) :
    Calls Tryz.prog 32 #[.string T1, .string T2] w fun e w' => e = .returned (.string Q) ∧ Ext w w' := by
  cases p <;> cases q <;>
  (
    go_enter Tryz.func32, Tryz.ntmps32
    go_wp2_with fail
    refine (HP1.out _).mono ?_
    rintro e w2 ⟨rfl, X2⟩
    go_wp2_with fail
    refine (HP2.out _).mono ?_
    rintro e w3 ⟨rfl, X3⟩
    go_wp2_with fail
    refine (HM1.out _).mono ?_
    rintro e w4 ⟨rfl, X4⟩
    go_wp2_with fail
    refine (HM2.out _).mono ?_
    rintro e w5 ⟨rfl, X5⟩
    go_wp2_with fail
    refine (HC.out _).mono ?_
    rintro e w6 ⟨rfl, X6⟩
    go_wp2_with fail
    go_ret
    exact ⟨rfl, ((((X2.trans X3).trans X4).trans X5).trans X6)⟩)

set_option maxHeartbeats 1600000 in
set_option maxRecDepth 100000 in
theorem ratDiv_leaf (T1 T2 N D M F X Y Q : ByteArray) (p q : Bool) (w : World)
    (HP1 : Hid (∀ W, Calls Tryz.prog 82 #[.string T1] W fun e w' => e = .returned (.tuple #[.bool p, .string N, .string D]) ∧ Ext W w'))
    (HP2 : Hid (∀ W, Calls Tryz.prog 82 #[.string T2] W fun e w' => e = .returned (.tuple #[.bool q, .string M, .string F]) ∧ Ext W w'))
    (HM1 : Hid (∀ W, Calls Tryz.prog 84 #[.string N, .string F] W fun e w' => e = .returned (.string X) ∧ Ext W w'))
    (HM2 : Hid (∀ W, Calls Tryz.prog 84 #[.string D, .string M] W fun e w' => e = .returned (.string Y) ∧ Ext W w'))
    (HC : Hid (∀ W, Calls Tryz.prog 83 #[.bool (p != q), .string X, .string Y] W fun e w' => e = .returned (.string Q) ∧ Ext W w')) :
    Calls Tryz.prog 21 #[.string T1, .string T2] w fun e w' => e = .returned (.string Q) ∧ Ext w w' := by
  cases p <;> cases q <;>
  (
    go_enter Tryz.func21, Tryz.ntmps21
    go_wp2_with fail
    refine (HP1.out _).mono ?_
    rintro e w2 ⟨rfl, X2⟩
    go_wp2_with fail
    refine (HP2.out _).mono ?_
    rintro e w3 ⟨rfl, X3⟩
    go_wp2_with fail
    refine (HM1.out _).mono ?_
    rintro e w4 ⟨rfl, X4⟩
    go_wp2_with fail
    refine (HM2.out _).mono ?_
    rintro e w5 ⟨rfl, X5⟩
    go_wp2_with fail
    refine (HC.out _).mono ?_
    rintro e w6 ⟨rfl, X6⟩
    go_wp2_with fail
    go_ret
    exact ⟨rfl, ((((X2.trans X3).trans X4).trans X5).trans X6)⟩)

set_option maxHeartbeats 1600000 in
set_option maxRecDepth 100000 in
theorem radd_same_true (T1 T2 N D M F X Y Z S Q : ByteArray) (w : World)
    (HP1 : Hid (∀ W, Calls Tryz.prog 82 #[.string T1] W fun e w' => e = .returned (.tuple #[.bool true, .string N, .string D]) ∧ Ext W w'))
    (HP2 : Hid (∀ W, Calls Tryz.prog 82 #[.string T2] W fun e w' => e = .returned (.tuple #[.bool true, .string M, .string F]) ∧ Ext W w'))
    (HM1 : Hid (∀ W, Calls Tryz.prog 84 #[.string N, .string F] W fun e w' => e = .returned (.string X) ∧ Ext W w'))
    (HM2 : Hid (∀ W, Calls Tryz.prog 84 #[.string M, .string D] W fun e w' => e = .returned (.string Y) ∧ Ext W w'))
    (HM3 : Hid (∀ W, Calls Tryz.prog 84 #[.string D, .string F] W fun e w' => e = .returned (.string Z) ∧ Ext W w'))
    (HA : Hid (∀ W, Calls Tryz.prog 92 #[.string X, .string Y] W fun e w' => e = .returned (.string S) ∧ Ext W w'))
    (HC : Hid (∀ W, Calls Tryz.prog 83 #[.bool true, .string S, .string Z] W fun e w' => e = .returned (.string Q) ∧ Ext W w')) :
    Calls Tryz.prog 27 #[.string T1, .string T2] w fun e w' => e = .returned (.string Q) ∧ Ext w w' := by
  go_enter Tryz.func27, Tryz.ntmps27
  go_wp2_with fail
  refine (HP1.out _).mono ?_
  rintro e w2 ⟨rfl, X2⟩
  go_wp2_with fail
  refine (HP2.out _).mono ?_
  rintro e w3 ⟨rfl, X3⟩
  go_wp2_with fail
  refine (HM1.out _).mono ?_
  rintro e w4 ⟨rfl, X4⟩
  go_wp2_with fail
  refine (HM2.out _).mono ?_
  rintro e w5 ⟨rfl, X5⟩
  go_wp2_with fail
  refine (HM3.out _).mono ?_
  rintro e w6 ⟨rfl, X6⟩
  go_wp2_with fail
  refine (HA.out _).mono ?_
  rintro e w7 ⟨rfl, X7⟩
  go_wp2_with fail
  refine (HC.out _).mono ?_
  rintro e w8 ⟨rfl, X8⟩
  go_wp2_with fail
  go_ret
  exact ⟨rfl, ((((((X2.trans X3).trans X4).trans X5).trans X6).trans X7).trans X8)⟩

set_option maxHeartbeats 1600000 in
set_option maxRecDepth 100000 in
theorem radd_diff_true_less (T1 T2 N D M F X Y Z S Q : ByteArray) (c : Int) (hc : c < 0) (w : World)
    (HP1 : Hid (∀ W, Calls Tryz.prog 82 #[.string T1] W fun e w' => e = .returned (.tuple #[.bool true, .string N, .string D]) ∧ Ext W w'))
    (HP2 : Hid (∀ W, Calls Tryz.prog 82 #[.string T2] W fun e w' => e = .returned (.tuple #[.bool false, .string M, .string F]) ∧ Ext W w'))
    (HM1 : Hid (∀ W, Calls Tryz.prog 84 #[.string N, .string F] W fun e w' => e = .returned (.string X) ∧ Ext W w'))
    (HM2 : Hid (∀ W, Calls Tryz.prog 84 #[.string M, .string D] W fun e w' => e = .returned (.string Y) ∧ Ext W w'))
    (HM3 : Hid (∀ W, Calls Tryz.prog 84 #[.string D, .string F] W fun e w' => e = .returned (.string Z) ∧ Ext W w'))
    (HCM : Hid (∀ W, Calls Tryz.prog 93 #[.string X, .string Y] W fun e w' => e = .returned (.int .i64 c) ∧ Ext W w'))
    (HA : Hid (∀ W, Calls Tryz.prog 94 #[.string Y, .string X] W fun e w' => e = .returned (.string S) ∧ Ext W w'))
    (HC : Hid (∀ W, Calls Tryz.prog 83 #[.bool false, .string S, .string Z] W fun e w' => e = .returned (.string Q) ∧ Ext W w')) :
    Calls Tryz.prog 27 #[.string T1, .string T2] w fun e w' => e = .returned (.string Q) ∧ Ext w w' := by
  go_enter Tryz.func27, Tryz.ntmps27
  go_wp2_with fail
  refine (HP1.out _).mono ?_
  rintro e w2 ⟨rfl, X2⟩
  go_wp2_with fail
  refine (HP2.out _).mono ?_
  rintro e w3 ⟨rfl, X3⟩
  go_wp2_with fail
  refine (HM1.out _).mono ?_
  rintro e w4 ⟨rfl, X4⟩
  go_wp2_with fail
  refine (HM2.out _).mono ?_
  rintro e w5 ⟨rfl, X5⟩
  go_wp2_with fail
  refine (HM3.out _).mono ?_
  rintro e w6 ⟨rfl, X6⟩
  go_wp2_with fail
  refine (HCM.out _).mono ?_
  rintro e w7 ⟨rfl, X7⟩
  go_wp2_with fail
  refine (HA.out _).mono ?_
  rintro e w8 ⟨rfl, X8⟩
  go_wp2_with fail
  refine (HC.out _).mono ?_
  rintro e w9 ⟨rfl, X9⟩
  go_wp2_with fail
  go_ret
  exact ⟨rfl, (((((((X2.trans X3).trans X4).trans X5).trans X6).trans X7).trans X8).trans X9)⟩

set_option maxHeartbeats 1600000 in
set_option maxRecDepth 100000 in
theorem radd_diff_true_ge (T1 T2 N D M F X Y Z S Q : ByteArray) (c : Int) (hc : 0 ≤ c) (w : World)
    (HP1 : Hid (∀ W, Calls Tryz.prog 82 #[.string T1] W fun e w' => e = .returned (.tuple #[.bool true, .string N, .string D]) ∧ Ext W w'))
    (HP2 : Hid (∀ W, Calls Tryz.prog 82 #[.string T2] W fun e w' => e = .returned (.tuple #[.bool false, .string M, .string F]) ∧ Ext W w'))
    (HM1 : Hid (∀ W, Calls Tryz.prog 84 #[.string N, .string F] W fun e w' => e = .returned (.string X) ∧ Ext W w'))
    (HM2 : Hid (∀ W, Calls Tryz.prog 84 #[.string M, .string D] W fun e w' => e = .returned (.string Y) ∧ Ext W w'))
    (HM3 : Hid (∀ W, Calls Tryz.prog 84 #[.string D, .string F] W fun e w' => e = .returned (.string Z) ∧ Ext W w'))
    (HCM : Hid (∀ W, Calls Tryz.prog 93 #[.string X, .string Y] W fun e w' => e = .returned (.int .i64 c) ∧ Ext W w'))
    (HA : Hid (∀ W, Calls Tryz.prog 94 #[.string X, .string Y] W fun e w' => e = .returned (.string S) ∧ Ext W w'))
    (HC : Hid (∀ W, Calls Tryz.prog 83 #[.bool true, .string S, .string Z] W fun e w' => e = .returned (.string Q) ∧ Ext W w')) :
    Calls Tryz.prog 27 #[.string T1, .string T2] w fun e w' => e = .returned (.string Q) ∧ Ext w w' := by
  go_enter Tryz.func27, Tryz.ntmps27
  go_wp2_with fail
  refine (HP1.out _).mono ?_
  rintro e w2 ⟨rfl, X2⟩
  go_wp2_with fail
  refine (HP2.out _).mono ?_
  rintro e w3 ⟨rfl, X3⟩
  go_wp2_with fail
  refine (HM1.out _).mono ?_
  rintro e w4 ⟨rfl, X4⟩
  go_wp2_with fail
  refine (HM2.out _).mono ?_
  rintro e w5 ⟨rfl, X5⟩
  go_wp2_with fail
  refine (HM3.out _).mono ?_
  rintro e w6 ⟨rfl, X6⟩
  go_wp2_with fail
  refine (HCM.out _).mono ?_
  rintro e w7 ⟨rfl, X7⟩
  go_wp2_with fail
  refine (HA.out _).mono ?_
  rintro e w8 ⟨rfl, X8⟩
  go_wp2_with fail
  refine (HC.out _).mono ?_
  rintro e w9 ⟨rfl, X9⟩
  go_wp2_with fail
  go_ret
  exact ⟨rfl, (((((((X2.trans X3).trans X4).trans X5).trans X6).trans X7).trans X8).trans X9)⟩

set_option maxHeartbeats 1600000 in
set_option maxRecDepth 100000 in
theorem radd_same_false (T1 T2 N D M F X Y Z S Q : ByteArray) (w : World)
    (HP1 : Hid (∀ W, Calls Tryz.prog 82 #[.string T1] W fun e w' => e = .returned (.tuple #[.bool false, .string N, .string D]) ∧ Ext W w'))
    (HP2 : Hid (∀ W, Calls Tryz.prog 82 #[.string T2] W fun e w' => e = .returned (.tuple #[.bool false, .string M, .string F]) ∧ Ext W w'))
    (HM1 : Hid (∀ W, Calls Tryz.prog 84 #[.string N, .string F] W fun e w' => e = .returned (.string X) ∧ Ext W w'))
    (HM2 : Hid (∀ W, Calls Tryz.prog 84 #[.string M, .string D] W fun e w' => e = .returned (.string Y) ∧ Ext W w'))
    (HM3 : Hid (∀ W, Calls Tryz.prog 84 #[.string D, .string F] W fun e w' => e = .returned (.string Z) ∧ Ext W w'))
    (HA : Hid (∀ W, Calls Tryz.prog 92 #[.string X, .string Y] W fun e w' => e = .returned (.string S) ∧ Ext W w'))
    (HC : Hid (∀ W, Calls Tryz.prog 83 #[.bool false, .string S, .string Z] W fun e w' => e = .returned (.string Q) ∧ Ext W w')) :
    Calls Tryz.prog 27 #[.string T1, .string T2] w fun e w' => e = .returned (.string Q) ∧ Ext w w' := by
  go_enter Tryz.func27, Tryz.ntmps27
  go_wp2_with fail
  refine (HP1.out _).mono ?_
  rintro e w2 ⟨rfl, X2⟩
  go_wp2_with fail
  refine (HP2.out _).mono ?_
  rintro e w3 ⟨rfl, X3⟩
  go_wp2_with fail
  refine (HM1.out _).mono ?_
  rintro e w4 ⟨rfl, X4⟩
  go_wp2_with fail
  refine (HM2.out _).mono ?_
  rintro e w5 ⟨rfl, X5⟩
  go_wp2_with fail
  refine (HM3.out _).mono ?_
  rintro e w6 ⟨rfl, X6⟩
  go_wp2_with fail
  refine (HA.out _).mono ?_
  rintro e w7 ⟨rfl, X7⟩
  go_wp2_with fail
  refine (HC.out _).mono ?_
  rintro e w8 ⟨rfl, X8⟩
  go_wp2_with fail
  go_ret
  exact ⟨rfl, ((((((X2.trans X3).trans X4).trans X5).trans X6).trans X7).trans X8)⟩

set_option maxHeartbeats 1600000 in
set_option maxRecDepth 100000 in
theorem radd_diff_false_less (T1 T2 N D M F X Y Z S Q : ByteArray) (c : Int) (hc : c < 0) (w : World)
    (HP1 : Hid (∀ W, Calls Tryz.prog 82 #[.string T1] W fun e w' => e = .returned (.tuple #[.bool false, .string N, .string D]) ∧ Ext W w'))
    (HP2 : Hid (∀ W, Calls Tryz.prog 82 #[.string T2] W fun e w' => e = .returned (.tuple #[.bool true, .string M, .string F]) ∧ Ext W w'))
    (HM1 : Hid (∀ W, Calls Tryz.prog 84 #[.string N, .string F] W fun e w' => e = .returned (.string X) ∧ Ext W w'))
    (HM2 : Hid (∀ W, Calls Tryz.prog 84 #[.string M, .string D] W fun e w' => e = .returned (.string Y) ∧ Ext W w'))
    (HM3 : Hid (∀ W, Calls Tryz.prog 84 #[.string D, .string F] W fun e w' => e = .returned (.string Z) ∧ Ext W w'))
    (HCM : Hid (∀ W, Calls Tryz.prog 93 #[.string X, .string Y] W fun e w' => e = .returned (.int .i64 c) ∧ Ext W w'))
    (HA : Hid (∀ W, Calls Tryz.prog 94 #[.string Y, .string X] W fun e w' => e = .returned (.string S) ∧ Ext W w'))
    (HC : Hid (∀ W, Calls Tryz.prog 83 #[.bool true, .string S, .string Z] W fun e w' => e = .returned (.string Q) ∧ Ext W w')) :
    Calls Tryz.prog 27 #[.string T1, .string T2] w fun e w' => e = .returned (.string Q) ∧ Ext w w' := by
  go_enter Tryz.func27, Tryz.ntmps27
  go_wp2_with fail
  refine (HP1.out _).mono ?_
  rintro e w2 ⟨rfl, X2⟩
  go_wp2_with fail
  refine (HP2.out _).mono ?_
  rintro e w3 ⟨rfl, X3⟩
  go_wp2_with fail
  refine (HM1.out _).mono ?_
  rintro e w4 ⟨rfl, X4⟩
  go_wp2_with fail
  refine (HM2.out _).mono ?_
  rintro e w5 ⟨rfl, X5⟩
  go_wp2_with fail
  refine (HM3.out _).mono ?_
  rintro e w6 ⟨rfl, X6⟩
  go_wp2_with fail
  refine (HCM.out _).mono ?_
  rintro e w7 ⟨rfl, X7⟩
  go_wp2_with fail
  refine (HA.out _).mono ?_
  rintro e w8 ⟨rfl, X8⟩
  go_wp2_with fail
  refine (HC.out _).mono ?_
  rintro e w9 ⟨rfl, X9⟩
  go_wp2_with fail
  go_ret
  exact ⟨rfl, (((((((X2.trans X3).trans X4).trans X5).trans X6).trans X7).trans X8).trans X9)⟩

set_option maxHeartbeats 1600000 in
set_option maxRecDepth 100000 in
theorem radd_diff_false_ge (T1 T2 N D M F X Y Z S Q : ByteArray) (c : Int) (hc : 0 ≤ c) (w : World)
    (HP1 : Hid (∀ W, Calls Tryz.prog 82 #[.string T1] W fun e w' => e = .returned (.tuple #[.bool false, .string N, .string D]) ∧ Ext W w'))
    (HP2 : Hid (∀ W, Calls Tryz.prog 82 #[.string T2] W fun e w' => e = .returned (.tuple #[.bool true, .string M, .string F]) ∧ Ext W w'))
    (HM1 : Hid (∀ W, Calls Tryz.prog 84 #[.string N, .string F] W fun e w' => e = .returned (.string X) ∧ Ext W w'))
    (HM2 : Hid (∀ W, Calls Tryz.prog 84 #[.string M, .string D] W fun e w' => e = .returned (.string Y) ∧ Ext W w'))
    (HM3 : Hid (∀ W, Calls Tryz.prog 84 #[.string D, .string F] W fun e w' => e = .returned (.string Z) ∧ Ext W w'))
    (HCM : Hid (∀ W, Calls Tryz.prog 93 #[.string X, .string Y] W fun e w' => e = .returned (.int .i64 c) ∧ Ext W w'))
    (HA : Hid (∀ W, Calls Tryz.prog 94 #[.string X, .string Y] W fun e w' => e = .returned (.string S) ∧ Ext W w'))
    (HC : Hid (∀ W, Calls Tryz.prog 83 #[.bool false, .string S, .string Z] W fun e w' => e = .returned (.string Q) ∧ Ext W w')) :
    Calls Tryz.prog 27 #[.string T1, .string T2] w fun e w' => e = .returned (.string Q) ∧ Ext w w' := by
  go_enter Tryz.func27, Tryz.ntmps27
  go_wp2_with fail
  refine (HP1.out _).mono ?_
  rintro e w2 ⟨rfl, X2⟩
  go_wp2_with fail
  refine (HP2.out _).mono ?_
  rintro e w3 ⟨rfl, X3⟩
  go_wp2_with fail
  refine (HM1.out _).mono ?_
  rintro e w4 ⟨rfl, X4⟩
  go_wp2_with fail
  refine (HM2.out _).mono ?_
  rintro e w5 ⟨rfl, X5⟩
  go_wp2_with fail
  refine (HM3.out _).mono ?_
  rintro e w6 ⟨rfl, X6⟩
  go_wp2_with fail
  refine (HCM.out _).mono ?_
  rintro e w7 ⟨rfl, X7⟩
  go_wp2_with fail
  refine (HA.out _).mono ?_
  rintro e w8 ⟨rfl, X8⟩
  go_wp2_with fail
  refine (HC.out _).mono ?_
  rintro e w9 ⟨rfl, X9⟩
  go_wp2_with fail
  go_ret
  exact ⟨rfl, (((((((X2.trans X3).trans X4).trans X5).trans X6).trans X7).trans X8).trans X9)⟩

set_option maxHeartbeats 1600000 in
set_option maxRecDepth 100000 in
theorem rsub_leaf (T1 T2 T3 Q : ByteArray) (w : World)
    (HN : Hid (∀ W, Calls Tryz.prog 29 #[.string T2] W fun e w' => e = .returned (.string T3) ∧ Ext W w'))
    (HA : Hid (∀ W, Calls Tryz.prog 27 #[.string T1, .string T3] W fun e w' => e = .returned (.string Q) ∧ Ext W w')) :
    Calls Tryz.prog 28 #[.string T1, .string T2] w fun e w' => e = .returned (.string Q) ∧ Ext w w' := by
  go_enter Tryz.func28, Tryz.ntmps28
  go_wp2_with fail
  refine (HN.out _).mono ?_
  rintro e w2 ⟨rfl, X2⟩
  go_wp2_with fail
  refine (HA.out _).mono ?_
  rintro e w3 ⟨rfl, X3⟩
  go_wp2_with fail
  go_ret
  exact ⟨rfl, (X2.trans X3)⟩

set_option maxHeartbeats 1600000 in
set_option maxRecDepth 100000 in
theorem rcmp_leaf (T1 T2 T3 : ByteArray) (c : Int) (w : World)
    (HN : Hid (∀ W, Calls Tryz.prog 28 #[.string T1, .string T2] W fun e w' => e = .returned (.string T3) ∧ Ext W w'))
    (HA : Hid (∀ W, Calls Tryz.prog 38 #[.string T3] W fun e w' => e = .returned (.int .i64 c) ∧ Ext W w')) :
    Calls Tryz.prog 37 #[.string T1, .string T2] w fun e w' => e = .returned (.int .i64 c) ∧ Ext w w' := by
  go_enter Tryz.func37, Tryz.ntmps37
  go_wp2_with fail
  refine (HN.out _).mono ?_
  rintro e w2 ⟨rfl, X2⟩
  go_wp2_with fail
  refine (HA.out _).mono ?_
  rintro e w3 ⟨rfl, X3⟩
  go_wp2_with fail
  go_ret
  exact ⟨rfl, (X2.trans X3)⟩

set_option maxHeartbeats 1600000 in
set_option maxRecDepth 100000 in
theorem rsign_leaf (T N D : ByteArray) (p z : Bool) (c : Int) (w : World) (hz : (N.toList == [48]) = z) (hc : c = if z = true then 0 else if p = true then -1 else 1)
    (HP : Hid (∀ W, Calls Tryz.prog 82 #[.string T] W fun e w' => e = .returned (.tuple #[.bool p, .string N, .string D]) ∧ Ext W w')) :
    Calls Tryz.prog 38 #[.string T] w fun e w' => e = .returned (.int .i64 c) ∧ Ext w w' := by
  subst hc
  cases p <;> cases z <;>
  (
    go_enter Tryz.func38, Tryz.ntmps38
    go_wp2_with fail
    refine (HP.out _).mono ?_
    rintro e w2 ⟨rfl, X2⟩
    go_wp2_with fail
    go_ret
    exact ⟨rfl, X2⟩)

set_option maxHeartbeats 1600000 in
set_option maxRecDepth 100000 in
theorem rfloor_pos (T N D U V Q : ByteArray) (w : World) 
    (HP : Hid (∀ W, Calls Tryz.prog 82 #[.string T] W fun e w' => e = .returned (.tuple #[.bool false, .string N, .string D]) ∧ Ext W w'))
    (HD : Hid (∀ W, Calls Tryz.prog 103 #[.string N, .string D] W fun e w' => e = .returned (.tuple #[.string U, .string V]) ∧ Ext W w'))
    (HC : Hid (∀ W, Calls Tryz.prog 83 #[.bool false, .string U, .string ⟨#[49]⟩] W fun e w' => e = .returned (.string Q) ∧ Ext W w')) :
    Calls Tryz.prog 39 #[.string T] w fun e w' => e = .returned (.string Q) ∧ Ext w w' := by
  go_enter Tryz.func39, Tryz.ntmps39
  go_wp2_with fail
  refine (HP.out _).mono ?_
  rintro e w2 ⟨rfl, X2⟩
  go_wp2_with fail
  refine (HD.out _).mono ?_
  rintro e w3 ⟨rfl, X3⟩
  go_wp2_with fail
  refine (HC.out _).mono ?_
  rintro e w4 ⟨rfl, X4⟩
  go_wp2_with fail
  go_ret
  exact ⟨rfl, ((X2.trans X3).trans X4)⟩

set_option maxHeartbeats 1600000 in
set_option maxRecDepth 100000 in
theorem rfloor_neg0 (T N D U V Q : ByteArray) (w : World) (hv : (V.toList == [48]) = true)
    (HP : Hid (∀ W, Calls Tryz.prog 82 #[.string T] W fun e w' => e = .returned (.tuple #[.bool true, .string N, .string D]) ∧ Ext W w'))
    (HD : Hid (∀ W, Calls Tryz.prog 103 #[.string N, .string D] W fun e w' => e = .returned (.tuple #[.string U, .string V]) ∧ Ext W w'))
    (HC : Hid (∀ W, Calls Tryz.prog 83 #[.bool true, .string U, .string ⟨#[49]⟩] W fun e w' => e = .returned (.string Q) ∧ Ext W w')) :
    Calls Tryz.prog 39 #[.string T] w fun e w' => e = .returned (.string Q) ∧ Ext w w' := by
  go_enter Tryz.func39, Tryz.ntmps39
  go_wp2_with fail
  refine (HP.out _).mono ?_
  rintro e w2 ⟨rfl, X2⟩
  go_wp2_with fail
  refine (HD.out _).mono ?_
  rintro e w3 ⟨rfl, X3⟩
  go_wp2_with fail
  refine (HC.out _).mono ?_
  rintro e w4 ⟨rfl, X4⟩
  go_wp2_with fail
  go_ret
  exact ⟨rfl, ((X2.trans X3).trans X4)⟩

set_option maxHeartbeats 1600000 in
set_option maxRecDepth 100000 in
theorem rfloor_neg1 (T N D U V S Q : ByteArray) (w : World) (hv : (V.toList == [48]) = false)
    (HP : Hid (∀ W, Calls Tryz.prog 82 #[.string T] W fun e w' => e = .returned (.tuple #[.bool true, .string N, .string D]) ∧ Ext W w'))
    (HD : Hid (∀ W, Calls Tryz.prog 103 #[.string N, .string D] W fun e w' => e = .returned (.tuple #[.string U, .string V]) ∧ Ext W w'))
    (HA : Hid (∀ W, Calls Tryz.prog 92 #[.string U, .string ⟨#[49]⟩] W fun e w' => e = .returned (.string S) ∧ Ext W w'))
    (HC : Hid (∀ W, Calls Tryz.prog 83 #[.bool true, .string S, .string ⟨#[49]⟩] W fun e w' => e = .returned (.string Q) ∧ Ext W w')) :
    Calls Tryz.prog 39 #[.string T] w fun e w' => e = .returned (.string Q) ∧ Ext w w' := by
  go_enter Tryz.func39, Tryz.ntmps39
  go_wp2_with fail
  refine (HP.out _).mono ?_
  rintro e w2 ⟨rfl, X2⟩
  go_wp2_with fail
  refine (HD.out _).mono ?_
  rintro e w3 ⟨rfl, X3⟩
  go_wp2_with fail
  refine (HA.out _).mono ?_
  rintro e w4 ⟨rfl, X4⟩
  go_wp2_with fail
  refine (HC.out _).mono ?_
  rintro e w5 ⟨rfl, X5⟩
  go_wp2_with fail
  go_ret
  exact ⟨rfl, (((X2.trans X3).trans X4).trans X5)⟩
end Go.Proofs.YtmmdfijjpeglgaaGreatDoor
