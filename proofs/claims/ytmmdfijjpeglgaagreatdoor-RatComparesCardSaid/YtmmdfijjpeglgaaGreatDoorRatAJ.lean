/- the laws RatOfs, RatSums, RatProducts, RatCompares -/
import Derived.Test.YtmmdfijjpeglgaaGreatDoorRatAI
namespace Go.Proofs.YtmmdfijjpeglgaaGreatDoor
open Go.RowKit
set_option linter.unusedVariables false

theorem ratFact_tab {w : World} (htab : TabPow w) : Hid (∀ W, Ext w W → Calls Tryz.prog 15 #[] W fun e w' => e = .returned (.bool true) ∧ Ext W w') := fun W hx => ratFact_any W (tabPow_ext htab hx)

set_option maxHeartbeats 1600000 in
set_option maxRecDepth 100000 in
theorem ratOfs_zero (n : Int) (w : World) 
    (H0 : Hid (∀ W, Ext w W → Calls Tryz.prog 15 #[] W fun e w' => e = .returned (.bool true) ∧ Ext W w'))
    (H1 : Hid (∀ W, Calls Tryz.prog 20 #[.int .i64 n, .int .i64 0] W fun e w' => e = .returned (.tuple #[.string ⟨#[]⟩, .int .i64 18]) ∧ Ext W w')) :
    Calls Tryz.prog 4 #[.int .i64 n, .int .i64 0] w fun e w' => e = .returned (.bool true) ∧ Ext w w' := by
  have E0 := Ext.refl w
  go_enter Tryz.func4, Tryz.ntmps4
  go_wp2_with fail
  refine (H0.out _ E0).mono ?_
  rintro e w1 ⟨rfl, X1⟩
  have E1 := E0.trans X1
  clear X1 E0
  go_wp2_with fail
  refine (H1.out _).mono ?_
  rintro e w2 ⟨rfl, X2⟩
  have E2 := E1.trans X2
  clear X2 E1
  go_wp2_with fail
  go_ret
  exact ⟨by first | rfl | simp, E2⟩

set_option maxHeartbeats 1600000 in
set_option maxRecDepth 100000 in
theorem ratOfs_ok (n d : Int) (S T1 T2 : ByteArray) (w : World) (hd : (d == 0) = false)
    (H0 : Hid (∀ W, Ext w W → Calls Tryz.prog 15 #[] W fun e w' => e = .returned (.bool true) ∧ Ext W w'))
    (H1 : Hid (∀ W, Ext w W → Calls Tryz.prog 20 #[.int .i64 n, .int .i64 d] W fun e w' => e = .returned (.tuple #[.string S, .int .i64 0]) ∧ Ext W w'))
    (H2 : Hid (∀ W, Calls Tryz.prog 22 #[.int .i64 n] W fun e w' => e = .returned (.string T1) ∧ Ext W w'))
    (H3 : Hid (∀ W, Calls Tryz.prog 22 #[.int .i64 d] W fun e w' => e = .returned (.string T2) ∧ Ext W w'))
    (H4 : Hid (∀ W, Calls Tryz.prog 21 #[.string T1, .string T2] W fun e w' => e = .returned (.string S) ∧ Ext W w')) :
    Calls Tryz.prog 4 #[.int .i64 n, .int .i64 d] w fun e w' => e = .returned (.bool true) ∧ Ext w w' := by
  have E0 := Ext.refl w
  go_enter Tryz.func4, Tryz.ntmps4
  go_wp2_with fail
  refine (H0.out _ E0).mono ?_
  rintro e w1 ⟨rfl, X1⟩
  have E1 := E0.trans X1
  clear X1 E0
  go_wp2_with fail
  refine (H1.out _ E1).mono ?_
  rintro e w2 ⟨rfl, X2⟩
  have E2 := E1.trans X2
  clear X2 E1
  go_wp2_with fail
  refine (H2.out _).mono ?_
  rintro e w3 ⟨rfl, X3⟩
  have E3 := E2.trans X3
  clear X3 E2
  go_wp2_with fail
  refine (H3.out _).mono ?_
  rintro e w4 ⟨rfl, X4⟩
  have E4 := E3.trans X4
  clear X4 E3
  go_wp2_with fail
  refine (H4.out _).mono ?_
  rintro e w5 ⟨rfl, X5⟩
  have E5 := E4.trans X5
  clear X5 E4
  go_wp2_with fail
  go_ret
  exact ⟨by first | rfl | simp, E5⟩

theorem ratOfs_walk (n d : Int) (w : World) (h1 : -9223372036854775808 ≤ n) (h2 : n ≤ 9223372036854775807) (h3 : -9223372036854775808 ≤ d) (h4 : d ≤ 9223372036854775807) (htab : TabPow w) :
    Calls Tryz.prog 4 #[.int .i64 n, .int .i64 d] w fun e w' => e = .returned (.bool true) ∧ Ext w w' := by
  have HF := ratFact_tab htab
  by_cases hd : d = 0
  · subst hd
    exact ratOfs_zero n w HF (fun W => ratOf_zero n W)
  · have hq : RB 38 (Rat.divInt n d) := by
      rw [Rat.divInt_eq_div]
      exact RB_div (by rw [Rat.num_intCast]; exact hd) (RB_int h1 h2) (RB_int h3 h4)
    have HO : Hid (∀ W, Ext w W → Calls Tryz.prog 20 #[.int .i64 n, .int .i64 d] W fun e w' => e = .returned (.tuple #[.string (ratT (Rat.divInt n d)), .int .i64 0]) ∧ Ext W w') := fun W hx => by
      have := ratOf_ok n d W (tabPow_ext htab hx) h1 h2 h3 h4 hd
      rwa [outF_RB hq (by omega)] at this
    refine ratOfs_ok n d _ _ _ w (by rw [beq_eq_false_iff_ne]; exact hd) HF HO (fun W => rInt_any n W h1 h2) (fun W => rInt_any d W h3 h4) (fun W => ?_)
    have := rDiv_any (a := (n : Rat)) (b := (d : Rat)) (k := 19) (m := 19) (by omega) (RB_int h1 h2) (RB_int h3 h4) (by rw [Rat.num_intCast]; exact hd) W
    rwa [← Rat.divInt_eq_div] at this

set_option maxHeartbeats 1600000 in
set_option maxRecDepth 100000 in
theorem ratSums_err1 (a b : ByteArray) (p : Int) (w : World) (hp : (p != 0) = true) (hpp : (p == p) = true)
    (H0 : Hid (∀ W, Ext w W → Calls Tryz.prog 15 #[] W fun e w' => e = .returned (.bool true) ∧ Ext W w'))
    (H1 : Hid (∀ W, Ext w W → Calls Tryz.prog 23 #[.string a, .string b] W fun e w' => e = .returned (.tuple #[.string ⟨#[]⟩, .int .i64 p]) ∧ Ext W w'))
    (H2 : Hid (∀ W, Ext w W → Calls Tryz.prog 24 #[.string a, .string b] W fun e w' => e = .returned (.tuple #[.string ⟨#[]⟩, .int .i64 p]) ∧ Ext W w'))
    (H3 : Hid (∀ W, Ext w W → Calls Tryz.prog 25 #[.string a] W fun e w' => e = .returned (.tuple #[.string ⟨#[]⟩, .int .i64 p]) ∧ Ext W w'))
    (H4 : Hid (∀ v W, Strs W v [a, b] → Calls Tryz.prog 19 #[v] W fun e w' => e = .returned (.int .i64 p) ∧ Ext W w'))
    (H5 : Hid (∀ W, Calls Tryz.prog 17 #[.string a] W fun e w' => e = .returned (.int .i64 p) ∧ Ext W w')) :
    Calls Tryz.prog 5 #[.string a, .string b] w fun e w' => e = .returned (.bool true) ∧ Ext w w' := by
  have E0 := Ext.refl w
  go_enter Tryz.func5, Tryz.ntmps5
  go_wp2_with fail
  refine (H0.out _ E0).mono ?_
  rintro e w1 ⟨rfl, X1⟩
  have E1 := E0.trans X1
  clear X1 E0
  go_wp2_with fail
  refine (H1.out _ E1).mono ?_
  rintro e w2 ⟨rfl, X2⟩
  have E2 := E1.trans X2
  clear X2 E1
  go_wp2_with fail
  refine (H2.out _ E2).mono ?_
  rintro e w3 ⟨rfl, X3⟩
  have E3 := E2.trans X3
  clear X3 E2
  go_wp2_with fail
  refine (H3.out _ E3).mono ?_
  rintro e w4 ⟨rfl, X4⟩
  have E4 := E3.trans X4
  clear X4 E3
  go_wp2_with fail
  refine (H4.out _ _ (by exact lit_strs_at _ _ ([a, b] : List ByteArray) (by simp) _ (by first | rfl | simp))).mono ?_
  rintro e w5 ⟨rfl, X5⟩
  have E5 := (E4.alloc (.cells #[.string a, .string b] 22)).trans X5
  clear X5 E4
  go_wp2_with fail
  refine (H5.out _).mono ?_
  rintro e w6 ⟨rfl, X6⟩
  have E6 := E5.trans X6
  clear X6 E5
  go_wp2_with fail
  go_ret
  exact ⟨by first | rfl | simp, E6⟩

set_option maxHeartbeats 1600000 in
set_option maxRecDepth 100000 in
theorem ratSums_err2 (a b : ByteArray) (p : Int) (Z : ByteArray) (w : World) (hp : (p != 0) = true) (hpp : (p == p) = true)
    (H0 : Hid (∀ W, Ext w W → Calls Tryz.prog 15 #[] W fun e w' => e = .returned (.bool true) ∧ Ext W w'))
    (H1 : Hid (∀ W, Ext w W → Calls Tryz.prog 23 #[.string a, .string b] W fun e w' => e = .returned (.tuple #[.string ⟨#[]⟩, .int .i64 p]) ∧ Ext W w'))
    (H2 : Hid (∀ W, Ext w W → Calls Tryz.prog 24 #[.string a, .string b] W fun e w' => e = .returned (.tuple #[.string ⟨#[]⟩, .int .i64 p]) ∧ Ext W w'))
    (H3 : Hid (∀ W, Ext w W → Calls Tryz.prog 25 #[.string a] W fun e w' => e = .returned (.tuple #[.string Z, .int .i64 0]) ∧ Ext W w'))
    (H4 : Hid (∀ v W, Strs W v [a, b] → Calls Tryz.prog 19 #[v] W fun e w' => e = .returned (.int .i64 p) ∧ Ext W w'))
    (H5 : Hid (∀ W, Calls Tryz.prog 17 #[.string a] W fun e w' => e = .returned (.int .i64 0) ∧ Ext W w')) :
    Calls Tryz.prog 5 #[.string a, .string b] w fun e w' => e = .returned (.bool true) ∧ Ext w w' := by
  have E0 := Ext.refl w
  go_enter Tryz.func5, Tryz.ntmps5
  go_wp2_with fail
  refine (H0.out _ E0).mono ?_
  rintro e w1 ⟨rfl, X1⟩
  have E1 := E0.trans X1
  clear X1 E0
  go_wp2_with fail
  refine (H1.out _ E1).mono ?_
  rintro e w2 ⟨rfl, X2⟩
  have E2 := E1.trans X2
  clear X2 E1
  go_wp2_with fail
  refine (H2.out _ E2).mono ?_
  rintro e w3 ⟨rfl, X3⟩
  have E3 := E2.trans X3
  clear X3 E2
  go_wp2_with fail
  refine (H3.out _ E3).mono ?_
  rintro e w4 ⟨rfl, X4⟩
  have E4 := E3.trans X4
  clear X4 E3
  go_wp2_with fail
  refine (H4.out _ _ (by exact lit_strs_at _ _ ([a, b] : List ByteArray) (by simp) _ (by first | rfl | simp))).mono ?_
  rintro e w5 ⟨rfl, X5⟩
  have E5 := (E4.alloc (.cells #[.string a, .string b] 22)).trans X5
  clear X5 E4
  go_wp2_with fail
  refine (H5.out _).mono ?_
  rintro e w6 ⟨rfl, X6⟩
  have E6 := E5.trans X6
  clear X6 E5
  go_wp2_with fail
  go_ret
  exact ⟨by first | rfl | simp, E6⟩

set_option maxHeartbeats 1600000 in
set_option maxRecDepth 100000 in
theorem ratSums_long (a b : ByteArray) (X Y Z : ByteArray) (e1 e2 : Int) (w : World) 
    (H0 : Hid (∀ W, Ext w W → Calls Tryz.prog 15 #[] W fun e w' => e = .returned (.bool true) ∧ Ext W w'))
    (H1 : Hid (∀ W, Ext w W → Calls Tryz.prog 23 #[.string a, .string b] W fun e w' => e = .returned (.tuple #[.string X, .int .i64 e1]) ∧ Ext W w'))
    (H2 : Hid (∀ W, Ext w W → Calls Tryz.prog 24 #[.string a, .string b] W fun e w' => e = .returned (.tuple #[.string Y, .int .i64 e2]) ∧ Ext W w'))
    (H3 : Hid (∀ W, Ext w W → Calls Tryz.prog 25 #[.string a] W fun e w' => e = .returned (.tuple #[.string Z, .int .i64 0]) ∧ Ext W w'))
    (H4 : Hid (∀ v W, Strs W v [a, b] → Calls Tryz.prog 19 #[v] W fun e w' => e = .returned (.int .i64 0) ∧ Ext W w'))
    (H5 : Hid (∀ W, Calls Tryz.prog 17 #[.string a] W fun e w' => e = .returned (.int .i64 0) ∧ Ext W w'))
    (H6 : Hid (∀ v W, Strs W v [a, b] → Calls Tryz.prog 26 #[.int .i64 100, v] W fun e w' => e = .returned (.bool true) ∧ Ext W w')) :
    Calls Tryz.prog 5 #[.string a, .string b] w fun e w' => e = .returned (.bool true) ∧ Ext w w' := by
  have E0 := Ext.refl w
  go_enter Tryz.func5, Tryz.ntmps5
  go_wp2_with fail
  refine (H0.out _ E0).mono ?_
  rintro e w1 ⟨rfl, X1⟩
  have E1 := E0.trans X1
  clear X1 E0
  go_wp2_with fail
  refine (H1.out _ E1).mono ?_
  rintro e w2 ⟨rfl, X2⟩
  have E2 := E1.trans X2
  clear X2 E1
  go_wp2_with fail
  refine (H2.out _ E2).mono ?_
  rintro e w3 ⟨rfl, X3⟩
  have E3 := E2.trans X3
  clear X3 E2
  go_wp2_with fail
  refine (H3.out _ E3).mono ?_
  rintro e w4 ⟨rfl, X4⟩
  have E4 := E3.trans X4
  clear X4 E3
  go_wp2_with fail
  refine (H4.out _ _ (by exact lit_strs_at _ _ ([a, b] : List ByteArray) (by simp) _ (by first | rfl | simp))).mono ?_
  rintro e w5 ⟨rfl, X5⟩
  have E5 := (E4.alloc (.cells #[.string a, .string b] 22)).trans X5
  clear X5 E4
  go_wp2_with fail
  refine (H5.out _).mono ?_
  rintro e w6 ⟨rfl, X6⟩
  have E6 := E5.trans X6
  clear X6 E5
  go_wp2_with fail
  refine (H6.out _ _ (by exact lit_strs_at _ _ ([a, b] : List ByteArray) (by simp) _ (by first | rfl | simp))).mono ?_
  rintro e w7 ⟨rfl, X7⟩
  have E7 := (E6.alloc (.cells #[.string a, .string b] 9)).trans X7
  clear X7 E6
  go_wp2_with fail
  go_ret
  exact ⟨by first | rfl | simp, E7⟩

set_option maxHeartbeats 1600000 in
set_option maxRecDepth 100000 in
theorem ratSums_ok (a b : ByteArray) (X Y Z : ByteArray) (w : World) 
    (H0 : Hid (∀ W, Ext w W → Calls Tryz.prog 15 #[] W fun e w' => e = .returned (.bool true) ∧ Ext W w'))
    (H1 : Hid (∀ W, Ext w W → Calls Tryz.prog 23 #[.string a, .string b] W fun e w' => e = .returned (.tuple #[.string X, .int .i64 0]) ∧ Ext W w'))
    (H2 : Hid (∀ W, Ext w W → Calls Tryz.prog 24 #[.string a, .string b] W fun e w' => e = .returned (.tuple #[.string Y, .int .i64 0]) ∧ Ext W w'))
    (H3 : Hid (∀ W, Ext w W → Calls Tryz.prog 25 #[.string a] W fun e w' => e = .returned (.tuple #[.string Z, .int .i64 0]) ∧ Ext W w'))
    (H4 : Hid (∀ v W, Strs W v [a, b] → Calls Tryz.prog 19 #[v] W fun e w' => e = .returned (.int .i64 0) ∧ Ext W w'))
    (H5 : Hid (∀ W, Calls Tryz.prog 17 #[.string a] W fun e w' => e = .returned (.int .i64 0) ∧ Ext W w'))
    (H6 : Hid (∀ v W, Strs W v [a, b] → Calls Tryz.prog 26 #[.int .i64 100, v] W fun e w' => e = .returned (.bool false) ∧ Ext W w'))
    (H7 : Hid (∀ W, Calls Tryz.prog 27 #[.string a, .string b] W fun e w' => e = .returned (.string X) ∧ Ext W w'))
    (H8 : Hid (∀ W, Calls Tryz.prog 28 #[.string a, .string b] W fun e w' => e = .returned (.string Y) ∧ Ext W w'))
    (H9 : Hid (∀ W, Calls Tryz.prog 29 #[.string a] W fun e w' => e = .returned (.string Z) ∧ Ext W w')) :
    Calls Tryz.prog 5 #[.string a, .string b] w fun e w' => e = .returned (.bool true) ∧ Ext w w' := by
  have E0 := Ext.refl w
  go_enter Tryz.func5, Tryz.ntmps5
  go_wp2_with fail
  refine (H0.out _ E0).mono ?_
  rintro e w1 ⟨rfl, X1⟩
  have E1 := E0.trans X1
  clear X1 E0
  go_wp2_with fail
  refine (H1.out _ E1).mono ?_
  rintro e w2 ⟨rfl, X2⟩
  have E2 := E1.trans X2
  clear X2 E1
  go_wp2_with fail
  refine (H2.out _ E2).mono ?_
  rintro e w3 ⟨rfl, X3⟩
  have E3 := E2.trans X3
  clear X3 E2
  go_wp2_with fail
  refine (H3.out _ E3).mono ?_
  rintro e w4 ⟨rfl, X4⟩
  have E4 := E3.trans X4
  clear X4 E3
  go_wp2_with fail
  refine (H4.out _ _ (by exact lit_strs_at _ _ ([a, b] : List ByteArray) (by simp) _ (by first | rfl | simp))).mono ?_
  rintro e w5 ⟨rfl, X5⟩
  have E5 := (E4.alloc (.cells #[.string a, .string b] 22)).trans X5
  clear X5 E4
  go_wp2_with fail
  refine (H5.out _).mono ?_
  rintro e w6 ⟨rfl, X6⟩
  have E6 := E5.trans X6
  clear X6 E5
  go_wp2_with fail
  refine (H6.out _ _ (by exact lit_strs_at _ _ ([a, b] : List ByteArray) (by simp) _ (by first | rfl | simp))).mono ?_
  rintro e w7 ⟨rfl, X7⟩
  have E7 := (E6.alloc (.cells #[.string a, .string b] 9)).trans X7
  clear X7 E6
  go_wp2_with fail
  refine (H7.out _).mono ?_
  rintro e w8 ⟨rfl, X8⟩
  have E8 := E7.trans X8
  clear X8 E7
  go_wp2_with fail
  refine (H8.out _).mono ?_
  rintro e w9 ⟨rfl, X9⟩
  have E9 := E8.trans X9
  clear X9 E8
  go_wp2_with fail
  refine (H9.out _).mono ?_
  rintro e w10 ⟨rfl, X10⟩
  have E10 := E9.trans X10
  clear X10 E9
  go_wp2_with fail
  go_ret
  exact ⟨by first | rfl | simp, E10⟩

set_option maxHeartbeats 1600000 in
set_option maxRecDepth 100000 in
theorem ratProducts_err (a b : ByteArray) (p : Int) (w : World) (hp : (p != 0) = true) (hpp : (p == p) = true)
    (H0 : Hid (∀ W, Ext w W → Calls Tryz.prog 15 #[] W fun e w' => e = .returned (.bool true) ∧ Ext W w'))
    (H1 : Hid (∀ W, Ext w W → Calls Tryz.prog 30 #[.string a, .string b] W fun e w' => e = .returned (.tuple #[.string ⟨#[]⟩, .int .i64 p]) ∧ Ext W w'))
    (H2 : Hid (∀ W, Ext w W → Calls Tryz.prog 31 #[.string a, .string b] W fun e w' => e = .returned (.tuple #[.string ⟨#[]⟩, .int .i64 p]) ∧ Ext W w'))
    (H3 : Hid (∀ v W, Strs W v [a, b] → Calls Tryz.prog 19 #[v] W fun e w' => e = .returned (.int .i64 p) ∧ Ext W w')) :
    Calls Tryz.prog 6 #[.string a, .string b] w fun e w' => e = .returned (.bool true) ∧ Ext w w' := by
  have E0 := Ext.refl w
  go_enter Tryz.func6, Tryz.ntmps6
  go_wp2_with fail
  refine (H0.out _ E0).mono ?_
  rintro e w1 ⟨rfl, X1⟩
  have E1 := E0.trans X1
  clear X1 E0
  go_wp2_with fail
  refine (H1.out _ E1).mono ?_
  rintro e w2 ⟨rfl, X2⟩
  have E2 := E1.trans X2
  clear X2 E1
  go_wp2_with fail
  refine (H2.out _ E2).mono ?_
  rintro e w3 ⟨rfl, X3⟩
  have E3 := E2.trans X3
  clear X3 E2
  go_wp2_with fail
  refine (H3.out _ _ (by exact lit_strs_at _ _ ([a, b] : List ByteArray) (by simp) _ (by first | rfl | simp))).mono ?_
  rintro e w4 ⟨rfl, X4⟩
  have E4 := (E3.alloc (.cells #[.string a, .string b] 22)).trans X4
  clear X4 E3
  go_wp2_with fail
  go_ret
  exact ⟨by first | rfl | simp, E4⟩

set_option maxHeartbeats 1600000 in
set_option maxRecDepth 100000 in
theorem ratProducts_long (a b : ByteArray) (X Y : ByteArray) (e1 e2 : Int) (w : World) 
    (H0 : Hid (∀ W, Ext w W → Calls Tryz.prog 15 #[] W fun e w' => e = .returned (.bool true) ∧ Ext W w'))
    (H1 : Hid (∀ W, Ext w W → Calls Tryz.prog 30 #[.string a, .string b] W fun e w' => e = .returned (.tuple #[.string X, .int .i64 e1]) ∧ Ext W w'))
    (H2 : Hid (∀ W, Ext w W → Calls Tryz.prog 31 #[.string a, .string b] W fun e w' => e = .returned (.tuple #[.string Y, .int .i64 e2]) ∧ Ext W w'))
    (H3 : Hid (∀ v W, Strs W v [a, b] → Calls Tryz.prog 19 #[v] W fun e w' => e = .returned (.int .i64 0) ∧ Ext W w'))
    (H4 : Hid (∀ v W, Strs W v [a, b] → Calls Tryz.prog 26 #[.int .i64 100, v] W fun e w' => e = .returned (.bool true) ∧ Ext W w')) :
    Calls Tryz.prog 6 #[.string a, .string b] w fun e w' => e = .returned (.bool true) ∧ Ext w w' := by
  have E0 := Ext.refl w
  go_enter Tryz.func6, Tryz.ntmps6
  go_wp2_with fail
  refine (H0.out _ E0).mono ?_
  rintro e w1 ⟨rfl, X1⟩
  have E1 := E0.trans X1
  clear X1 E0
  go_wp2_with fail
  refine (H1.out _ E1).mono ?_
  rintro e w2 ⟨rfl, X2⟩
  have E2 := E1.trans X2
  clear X2 E1
  go_wp2_with fail
  refine (H2.out _ E2).mono ?_
  rintro e w3 ⟨rfl, X3⟩
  have E3 := E2.trans X3
  clear X3 E2
  go_wp2_with fail
  refine (H3.out _ _ (by exact lit_strs_at _ _ ([a, b] : List ByteArray) (by simp) _ (by first | rfl | simp))).mono ?_
  rintro e w4 ⟨rfl, X4⟩
  have E4 := (E3.alloc (.cells #[.string a, .string b] 22)).trans X4
  clear X4 E3
  go_wp2_with fail
  refine (H4.out _ _ (by exact lit_strs_at _ _ ([a, b] : List ByteArray) (by simp) _ (by first | rfl | simp))).mono ?_
  rintro e w5 ⟨rfl, X5⟩
  have E5 := (E4.alloc (.cells #[.string a, .string b] 9)).trans X5
  clear X5 E4
  go_wp2_with fail
  go_ret
  exact ⟨by first | rfl | simp, E5⟩

set_option maxHeartbeats 1600000 in
set_option maxRecDepth 100000 in
theorem ratProducts_zero (a b : ByteArray) (X : ByteArray) (w : World) (hb0 : (b.toList == [48]) = true)
    (H0 : Hid (∀ W, Ext w W → Calls Tryz.prog 15 #[] W fun e w' => e = .returned (.bool true) ∧ Ext W w'))
    (H1 : Hid (∀ W, Ext w W → Calls Tryz.prog 30 #[.string a, .string b] W fun e w' => e = .returned (.tuple #[.string X, .int .i64 0]) ∧ Ext W w'))
    (H2 : Hid (∀ W, Ext w W → Calls Tryz.prog 31 #[.string a, .string b] W fun e w' => e = .returned (.tuple #[.string ⟨#[]⟩, .int .i64 18]) ∧ Ext W w'))
    (H3 : Hid (∀ v W, Strs W v [a, b] → Calls Tryz.prog 19 #[v] W fun e w' => e = .returned (.int .i64 0) ∧ Ext W w'))
    (H4 : Hid (∀ v W, Strs W v [a, b] → Calls Tryz.prog 26 #[.int .i64 100, v] W fun e w' => e = .returned (.bool false) ∧ Ext W w'))
    (H5 : Hid (∀ W, Calls Tryz.prog 32 #[.string a, .string b] W fun e w' => e = .returned (.string X) ∧ Ext W w')) :
    Calls Tryz.prog 6 #[.string a, .string b] w fun e w' => e = .returned (.bool true) ∧ Ext w w' := by
  have E0 := Ext.refl w
  go_enter Tryz.func6, Tryz.ntmps6
  go_wp2_with fail
  refine (H0.out _ E0).mono ?_
  rintro e w1 ⟨rfl, X1⟩
  have E1 := E0.trans X1
  clear X1 E0
  go_wp2_with fail
  refine (H1.out _ E1).mono ?_
  rintro e w2 ⟨rfl, X2⟩
  have E2 := E1.trans X2
  clear X2 E1
  go_wp2_with fail
  refine (H2.out _ E2).mono ?_
  rintro e w3 ⟨rfl, X3⟩
  have E3 := E2.trans X3
  clear X3 E2
  go_wp2_with fail
  refine (H3.out _ _ (by exact lit_strs_at _ _ ([a, b] : List ByteArray) (by simp) _ (by first | rfl | simp))).mono ?_
  rintro e w4 ⟨rfl, X4⟩
  have E4 := (E3.alloc (.cells #[.string a, .string b] 22)).trans X4
  clear X4 E3
  go_wp2_with fail
  refine (H4.out _ _ (by exact lit_strs_at _ _ ([a, b] : List ByteArray) (by simp) _ (by first | rfl | simp))).mono ?_
  rintro e w5 ⟨rfl, X5⟩
  have E5 := (E4.alloc (.cells #[.string a, .string b] 9)).trans X5
  clear X5 E4
  go_wp2_with fail
  refine (H5.out _).mono ?_
  rintro e w6 ⟨rfl, X6⟩
  have E6 := E5.trans X6
  clear X6 E5
  go_wp2_with fail
  go_ret
  exact ⟨by first | rfl | simp, E6⟩

set_option maxHeartbeats 1600000 in
set_option maxRecDepth 100000 in
theorem ratProducts_ok (a b : ByteArray) (X Y : ByteArray) (w : World) (hb0 : (b.toList == [48]) = false)
    (H0 : Hid (∀ W, Ext w W → Calls Tryz.prog 15 #[] W fun e w' => e = .returned (.bool true) ∧ Ext W w'))
    (H1 : Hid (∀ W, Ext w W → Calls Tryz.prog 30 #[.string a, .string b] W fun e w' => e = .returned (.tuple #[.string X, .int .i64 0]) ∧ Ext W w'))
    (H2 : Hid (∀ W, Ext w W → Calls Tryz.prog 31 #[.string a, .string b] W fun e w' => e = .returned (.tuple #[.string Y, .int .i64 0]) ∧ Ext W w'))
    (H3 : Hid (∀ v W, Strs W v [a, b] → Calls Tryz.prog 19 #[v] W fun e w' => e = .returned (.int .i64 0) ∧ Ext W w'))
    (H4 : Hid (∀ v W, Strs W v [a, b] → Calls Tryz.prog 26 #[.int .i64 100, v] W fun e w' => e = .returned (.bool false) ∧ Ext W w'))
    (H5 : Hid (∀ W, Calls Tryz.prog 32 #[.string a, .string b] W fun e w' => e = .returned (.string X) ∧ Ext W w'))
    (H6 : Hid (∀ W, Calls Tryz.prog 21 #[.string a, .string b] W fun e w' => e = .returned (.string Y) ∧ Ext W w')) :
    Calls Tryz.prog 6 #[.string a, .string b] w fun e w' => e = .returned (.bool true) ∧ Ext w w' := by
  have E0 := Ext.refl w
  go_enter Tryz.func6, Tryz.ntmps6
  go_wp2_with fail
  refine (H0.out _ E0).mono ?_
  rintro e w1 ⟨rfl, X1⟩
  have E1 := E0.trans X1
  clear X1 E0
  go_wp2_with fail
  refine (H1.out _ E1).mono ?_
  rintro e w2 ⟨rfl, X2⟩
  have E2 := E1.trans X2
  clear X2 E1
  go_wp2_with fail
  refine (H2.out _ E2).mono ?_
  rintro e w3 ⟨rfl, X3⟩
  have E3 := E2.trans X3
  clear X3 E2
  go_wp2_with fail
  refine (H3.out _ _ (by exact lit_strs_at _ _ ([a, b] : List ByteArray) (by simp) _ (by first | rfl | simp))).mono ?_
  rintro e w4 ⟨rfl, X4⟩
  have E4 := (E3.alloc (.cells #[.string a, .string b] 22)).trans X4
  clear X4 E3
  go_wp2_with fail
  refine (H4.out _ _ (by exact lit_strs_at _ _ ([a, b] : List ByteArray) (by simp) _ (by first | rfl | simp))).mono ?_
  rintro e w5 ⟨rfl, X5⟩
  have E5 := (E4.alloc (.cells #[.string a, .string b] 9)).trans X5
  clear X5 E4
  go_wp2_with fail
  refine (H5.out _).mono ?_
  rintro e w6 ⟨rfl, X6⟩
  have E6 := E5.trans X6
  clear X6 E5
  go_wp2_with fail
  refine (H6.out _).mono ?_
  rintro e w7 ⟨rfl, X7⟩
  have E7 := E6.trans X7
  clear X7 E6
  go_wp2_with fail
  go_ret
  exact ⟨by first | rfl | simp, E7⟩

set_option maxHeartbeats 1600000 in
set_option maxRecDepth 100000 in
theorem ratCompares_err1 (a b : ByteArray) (p : Int) (w : World) (hp : (p != 0) = true) (hpp : (p == p) = true)
    (H0 : Hid (∀ W, Ext w W → Calls Tryz.prog 15 #[] W fun e w' => e = .returned (.bool true) ∧ Ext W w'))
    (H1 : Hid (∀ W, Ext w W → Calls Tryz.prog 33 #[.string a, .string b] W fun e w' => e = .returned (.tuple #[.int .i64 0, .int .i64 p]) ∧ Ext W w'))
    (H2 : Hid (∀ W, Ext w W → Calls Tryz.prog 34 #[.string a] W fun e w' => e = .returned (.tuple #[.int .i64 0, .int .i64 p]) ∧ Ext W w'))
    (H3 : Hid (∀ W, Ext w W → Calls Tryz.prog 35 #[.string a] W fun e w' => e = .returned (.tuple #[.string ⟨#[]⟩, .int .i64 p]) ∧ Ext W w'))
    (H4 : Hid (∀ W, Calls Tryz.prog 17 #[.string a] W fun e w' => e = .returned (.int .i64 p) ∧ Ext W w')) :
    Calls Tryz.prog 7 #[.string a, .string b] w fun e w' => e = .returned (.bool true) ∧ Ext w w' := by
  have E0 := Ext.refl w
  go_enter Tryz.func7, Tryz.ntmps7
  go_wp2_with fail
  refine (H0.out _ E0).mono ?_
  rintro e w1 ⟨rfl, X1⟩
  have E1 := E0.trans X1
  clear X1 E0
  go_wp2_with fail
  refine (H1.out _ E1).mono ?_
  rintro e w2 ⟨rfl, X2⟩
  have E2 := E1.trans X2
  clear X2 E1
  go_wp2_with fail
  refine (H2.out _ E2).mono ?_
  rintro e w3 ⟨rfl, X3⟩
  have E3 := E2.trans X3
  clear X3 E2
  go_wp2_with fail
  refine (H3.out _ E3).mono ?_
  rintro e w4 ⟨rfl, X4⟩
  have E4 := E3.trans X4
  clear X4 E3
  go_wp2_with fail
  refine (H4.out _).mono ?_
  rintro e w5 ⟨rfl, X5⟩
  have E5 := E4.trans X5
  clear X5 E4
  go_wp2_with fail
  go_ret
  exact ⟨by first | rfl | simp, E5⟩

set_option maxHeartbeats 1600000 in
set_option maxRecDepth 100000 in
theorem ratCompares_err2 (a b : ByteArray) (p s e1 : Int) (F : ByteArray) (w : World) (hp : (p != 0) = true) (hpp : (p == p) = true)
    (H0 : Hid (∀ W, Ext w W → Calls Tryz.prog 15 #[] W fun e w' => e = .returned (.bool true) ∧ Ext W w'))
    (H1 : Hid (∀ W, Ext w W → Calls Tryz.prog 33 #[.string a, .string b] W fun e w' => e = .returned (.tuple #[.int .i64 0, .int .i64 p]) ∧ Ext W w'))
    (H2 : Hid (∀ W, Ext w W → Calls Tryz.prog 34 #[.string a] W fun e w' => e = .returned (.tuple #[.int .i64 s, .int .i64 0]) ∧ Ext W w'))
    (H3 : Hid (∀ W, Ext w W → Calls Tryz.prog 35 #[.string a] W fun e w' => e = .returned (.tuple #[.string F, .int .i64 e1]) ∧ Ext W w'))
    (H4 : Hid (∀ W, Calls Tryz.prog 17 #[.string a] W fun e w' => e = .returned (.int .i64 0) ∧ Ext W w'))
    (H5 : Hid (∀ W, Calls Tryz.prog 17 #[.string b] W fun e w' => e = .returned (.int .i64 p) ∧ Ext W w')) :
    Calls Tryz.prog 7 #[.string a, .string b] w fun e w' => e = .returned (.bool true) ∧ Ext w w' := by
  have E0 := Ext.refl w
  go_enter Tryz.func7, Tryz.ntmps7
  go_wp2_with fail
  refine (H0.out _ E0).mono ?_
  rintro e w1 ⟨rfl, X1⟩
  have E1 := E0.trans X1
  clear X1 E0
  go_wp2_with fail
  refine (H1.out _ E1).mono ?_
  rintro e w2 ⟨rfl, X2⟩
  have E2 := E1.trans X2
  clear X2 E1
  go_wp2_with fail
  refine (H2.out _ E2).mono ?_
  rintro e w3 ⟨rfl, X3⟩
  have E3 := E2.trans X3
  clear X3 E2
  go_wp2_with fail
  refine (H3.out _ E3).mono ?_
  rintro e w4 ⟨rfl, X4⟩
  have E4 := E3.trans X4
  clear X4 E3
  go_wp2_with fail
  refine (H4.out _).mono ?_
  rintro e w5 ⟨rfl, X5⟩
  have E5 := E4.trans X5
  clear X5 E4
  go_wp2_with fail
  refine (H5.out _).mono ?_
  rintro e w6 ⟨rfl, X6⟩
  have E6 := E5.trans X6
  clear X6 E5
  go_wp2_with fail
  go_ret
  exact ⟨by first | rfl | simp, E6⟩

set_option maxHeartbeats 1600000 in
set_option maxRecDepth 100000 in
theorem ratCompares_long (a b : ByteArray) (c s e1 : Int) (F : ByteArray) (w : World) 
    (H0 : Hid (∀ W, Ext w W → Calls Tryz.prog 15 #[] W fun e w' => e = .returned (.bool true) ∧ Ext W w'))
    (H1 : Hid (∀ W, Ext w W → Calls Tryz.prog 33 #[.string a, .string b] W fun e w' => e = .returned (.tuple #[.int .i64 c, .int .i64 0]) ∧ Ext W w'))
    (H2 : Hid (∀ W, Ext w W → Calls Tryz.prog 34 #[.string a] W fun e w' => e = .returned (.tuple #[.int .i64 s, .int .i64 0]) ∧ Ext W w'))
    (H3 : Hid (∀ W, Ext w W → Calls Tryz.prog 35 #[.string a] W fun e w' => e = .returned (.tuple #[.string F, .int .i64 e1]) ∧ Ext W w'))
    (H4 : Hid (∀ W, Calls Tryz.prog 17 #[.string a] W fun e w' => e = .returned (.int .i64 0) ∧ Ext W w'))
    (H5 : Hid (∀ W, Calls Tryz.prog 17 #[.string b] W fun e w' => e = .returned (.int .i64 0) ∧ Ext W w'))
    (H6 : Hid (∀ v W, Strs W v [a, b] → Calls Tryz.prog 26 #[.int .i64 100, v] W fun e w' => e = .returned (.bool true) ∧ Ext W w')) :
    Calls Tryz.prog 7 #[.string a, .string b] w fun e w' => e = .returned (.bool true) ∧ Ext w w' := by
  have E0 := Ext.refl w
  go_enter Tryz.func7, Tryz.ntmps7
  go_wp2_with fail
  refine (H0.out _ E0).mono ?_
  rintro e w1 ⟨rfl, X1⟩
  have E1 := E0.trans X1
  clear X1 E0
  go_wp2_with fail
  refine (H1.out _ E1).mono ?_
  rintro e w2 ⟨rfl, X2⟩
  have E2 := E1.trans X2
  clear X2 E1
  go_wp2_with fail
  refine (H2.out _ E2).mono ?_
  rintro e w3 ⟨rfl, X3⟩
  have E3 := E2.trans X3
  clear X3 E2
  go_wp2_with fail
  refine (H3.out _ E3).mono ?_
  rintro e w4 ⟨rfl, X4⟩
  have E4 := E3.trans X4
  clear X4 E3
  go_wp2_with fail
  refine (H4.out _).mono ?_
  rintro e w5 ⟨rfl, X5⟩
  have E5 := E4.trans X5
  clear X5 E4
  go_wp2_with fail
  refine (H5.out _).mono ?_
  rintro e w6 ⟨rfl, X6⟩
  have E6 := E5.trans X6
  clear X6 E5
  go_wp2_with fail
  refine (H6.out _ _ (by exact lit_strs_at _ _ ([a, b] : List ByteArray) (by simp) _ (by first | rfl | simp))).mono ?_
  rintro e w7 ⟨rfl, X7⟩
  have E7 := (E6.alloc (.cells #[.string a, .string b] 9)).trans X7
  clear X7 E6
  go_wp2_with fail
  go_ret
  exact ⟨by first | rfl | simp, E7⟩

set_option maxHeartbeats 1600000 in
set_option maxRecDepth 100000 in
theorem ratCompares_ok (a b : ByteArray) (c s : Int) (F : ByteArray) (w : World) (hc : (c == c) = true) (hs : (s == s) = true)
    (H0 : Hid (∀ W, Ext w W → Calls Tryz.prog 15 #[] W fun e w' => e = .returned (.bool true) ∧ Ext W w'))
    (H1 : Hid (∀ W, Ext w W → Calls Tryz.prog 33 #[.string a, .string b] W fun e w' => e = .returned (.tuple #[.int .i64 c, .int .i64 0]) ∧ Ext W w'))
    (H2 : Hid (∀ W, Ext w W → Calls Tryz.prog 34 #[.string a] W fun e w' => e = .returned (.tuple #[.int .i64 s, .int .i64 0]) ∧ Ext W w'))
    (H3 : Hid (∀ W, Ext w W → Calls Tryz.prog 35 #[.string a] W fun e w' => e = .returned (.tuple #[.string F, .int .i64 0]) ∧ Ext W w'))
    (H4 : Hid (∀ W, Calls Tryz.prog 17 #[.string a] W fun e w' => e = .returned (.int .i64 0) ∧ Ext W w'))
    (H5 : Hid (∀ W, Calls Tryz.prog 17 #[.string b] W fun e w' => e = .returned (.int .i64 0) ∧ Ext W w'))
    (H6 : Hid (∀ v W, Strs W v [a, b] → Calls Tryz.prog 26 #[.int .i64 100, v] W fun e w' => e = .returned (.bool false) ∧ Ext W w'))
    (H7 : Hid (∀ v W, Ints W v [0, 0, 0] → Calls Tryz.prog 36 #[v] W fun e w' => e = .returned (.bool true) ∧ Ext W w'))
    (H8 : Hid (∀ W, Calls Tryz.prog 37 #[.string a, .string b] W fun e w' => e = .returned (.int .i64 c) ∧ Ext W w'))
    (H9 : Hid (∀ W, Calls Tryz.prog 38 #[.string a] W fun e w' => e = .returned (.int .i64 s) ∧ Ext W w'))
    (H10 : Hid (∀ W, Calls Tryz.prog 39 #[.string a] W fun e w' => e = .returned (.string F) ∧ Ext W w')) :
    Calls Tryz.prog 7 #[.string a, .string b] w fun e w' => e = .returned (.bool true) ∧ Ext w w' := by
  have E0 := Ext.refl w
  go_enter Tryz.func7, Tryz.ntmps7
  go_wp2_with fail
  refine (H0.out _ E0).mono ?_
  rintro e w1 ⟨rfl, X1⟩
  have E1 := E0.trans X1
  clear X1 E0
  go_wp2_with fail
  refine (H1.out _ E1).mono ?_
  rintro e w2 ⟨rfl, X2⟩
  have E2 := E1.trans X2
  clear X2 E1
  go_wp2_with fail
  refine (H2.out _ E2).mono ?_
  rintro e w3 ⟨rfl, X3⟩
  have E3 := E2.trans X3
  clear X3 E2
  go_wp2_with fail
  refine (H3.out _ E3).mono ?_
  rintro e w4 ⟨rfl, X4⟩
  have E4 := E3.trans X4
  clear X4 E3
  go_wp2_with fail
  refine (H4.out _).mono ?_
  rintro e w5 ⟨rfl, X5⟩
  have E5 := E4.trans X5
  clear X5 E4
  go_wp2_with fail
  refine (H5.out _).mono ?_
  rintro e w6 ⟨rfl, X6⟩
  have E6 := E5.trans X6
  clear X6 E5
  go_wp2_with fail
  refine (H6.out _ _ (by exact lit_strs_at _ _ ([a, b] : List ByteArray) (by simp) _ (by first | rfl | simp))).mono ?_
  rintro e w7 ⟨rfl, X7⟩
  have E7 := (E6.alloc (.cells #[.string a, .string b] 9)).trans X7
  clear X7 E6
  go_wp2_with fail
  refine (H7.out _ _ (by exact lit_ints_at _ _ ([0, 0, 0] : List Int) (by simp) _ (by first | rfl | simp))).mono ?_
  rintro e w8 ⟨rfl, X8⟩
  have E8 := (E7.alloc (.cells #[.int .i64 0, .int .i64 0, .int .i64 0] 25)).trans X8
  clear X8 E7
  go_wp2_with fail
  refine (H8.out _).mono ?_
  rintro e w9 ⟨rfl, X9⟩
  have E9 := E8.trans X9
  clear X9 E8
  go_wp2_with fail
  refine (H9.out _).mono ?_
  rintro e w10 ⟨rfl, X10⟩
  have E10 := E9.trans X10
  clear X10 E9
  go_wp2_with fail
  refine (H10.out _).mono ?_
  rintro e w11 ⟨rfl, X11⟩
  have E11 := E10.trans X11
  clear X11 E10
  go_wp2_with fail
  go_ret
  exact ⟨by first | rfl | simp, E11⟩
end Go.Proofs.YtmmdfijjpeglgaaGreatDoor
