/- texts merged: RatX RatY -/
import Derived.Test.YtmmdfijjpeglgaaGreatDoorRtH
/- package rat at fixed texts -/
namespace Go.Proofs.YtmmdfijjpeglgaaGreatDoor
open Go.RowKit
set_option linter.unusedVariables false

set_option maxRecDepth 100000 in
theorem rf1 (w : World) (htab : TabPow w) : Calls Tryz.prog 20 #[.int .i64 6, .int .i64 (-4)] w fun e w' => ∃ A, e = .returned (.tuple #[.string A, .int .i64 0]) ∧ A.toList = [45, 51, 47, 50] ∧ Ext w w' := by
  refine (ratOf_ok 6 (-4) w htab (by decide) (by decide) (by decide) (by decide) (by decide)).mono ?_
  rintro e w' ⟨rfl, X⟩
  exact ⟨_, congrArg (fun z : Int => Ending.returned (.tuple #[.string _, .int .i64 z])) (by decide +kernel), by decide +kernel, X⟩
set_option maxRecDepth 100000 in
theorem rf2 (w : World) (htab : TabPow w) : Calls Tryz.prog 23 #[.string ⟨#[49, 47, 50]⟩, .string ⟨#[49, 47, 51]⟩] w fun e w' => ∃ A, e = .returned (.tuple #[.string A, .int .i64 0]) ∧ A.toList = [53, 47, 54] ∧ Ext w w' := by
  refine (ratAdd_ok (⟨#[49, 47, 50]⟩ : ByteArray) (⟨#[49, 47, 51]⟩ : ByteArray) w htab (by decide) (by decide) (by decide +kernel)).mono ?_
  rintro e w' ⟨rfl, X⟩
  exact ⟨_, congrArg (fun z : Int => Ending.returned (.tuple #[.string _, .int .i64 z])) (by decide +kernel), by decide +kernel, X⟩
set_option maxRecDepth 100000 in
theorem rf3 (w : World) (htab : TabPow w) : Calls Tryz.prog 24 #[.string ⟨#[49, 47, 50]⟩, .string ⟨#[49, 47, 51]⟩] w fun e w' => ∃ A, e = .returned (.tuple #[.string A, .int .i64 0]) ∧ A.toList = [49, 47, 54] ∧ Ext w w' := by
  refine (ratSub_ok (⟨#[49, 47, 50]⟩ : ByteArray) (⟨#[49, 47, 51]⟩ : ByteArray) w htab (by decide) (by decide) (by decide +kernel)).mono ?_
  rintro e w' ⟨rfl, X⟩
  exact ⟨_, congrArg (fun z : Int => Ending.returned (.tuple #[.string _, .int .i64 z])) (by decide +kernel), by decide +kernel, X⟩
set_option maxRecDepth 100000 in
theorem rf4 (w : World) (htab : TabPow w) : Calls Tryz.prog 30 #[.string ⟨#[50, 47, 51]⟩, .string ⟨#[51, 47, 50]⟩] w fun e w' => ∃ A, e = .returned (.tuple #[.string A, .int .i64 0]) ∧ A.toList = [49] ∧ Ext w w' := by
  refine (ratMul_ok (⟨#[50, 47, 51]⟩ : ByteArray) (⟨#[51, 47, 50]⟩ : ByteArray) w htab (by decide) (by decide) (by decide +kernel)).mono ?_
  rintro e w' ⟨rfl, X⟩
  exact ⟨_, congrArg (fun z : Int => Ending.returned (.tuple #[.string _, .int .i64 z])) (by decide +kernel), by decide +kernel, X⟩
set_option maxRecDepth 100000 in
theorem rf5 (w : World) (htab : TabPow w) : Calls Tryz.prog 31 #[.string ⟨#[49]⟩, .string ⟨#[45, 51]⟩] w fun e w' => ∃ A, e = .returned (.tuple #[.string A, .int .i64 0]) ∧ A.toList = [45, 49, 47, 51] ∧ Ext w w' := by
  refine (ratDiv_ok (⟨#[49]⟩ : ByteArray) (⟨#[45, 51]⟩ : ByteArray) w htab (by decide) (by decide) (by decide +kernel) (by decide +kernel) (by decide +kernel)).mono ?_
  rintro e w' ⟨rfl, X⟩
  exact ⟨_, congrArg (fun z : Int => Ending.returned (.tuple #[.string _, .int .i64 z])) (by decide +kernel), by decide +kernel, X⟩
set_option maxRecDepth 100000 in
theorem rf6 (w : World) (htab : TabPow w) : Calls Tryz.prog 25 #[.string ⟨#[49, 47, 50]⟩] w fun e w' => ∃ A, e = .returned (.tuple #[.string A, .int .i64 0]) ∧ A.toList = [45, 49, 47, 50] ∧ Ext w w' := by
  refine (ratNeg_ok (⟨#[49, 47, 50]⟩ : ByteArray) w htab (by decide) (by decide +kernel)).mono ?_
  rintro e w' ⟨rfl, X⟩
  exact ⟨_, congrArg (fun z : Int => Ending.returned (.tuple #[.string _, .int .i64 z])) (by decide +kernel), by decide +kernel, X⟩
set_option maxRecDepth 100000 in
theorem rf9 (w : World) (htab : TabPow w) : Calls Tryz.prog 35 #[.string ⟨#[45, 49, 47, 50]⟩] w fun e w' => ∃ A, e = .returned (.tuple #[.string A, .int .i64 0]) ∧ A.toList = [45, 49] ∧ Ext w w' := by
  refine (ratFloor_ok (⟨#[45, 49, 47, 50]⟩ : ByteArray) w htab (by decide) (by decide +kernel)).mono ?_
  rintro e w' ⟨rfl, X⟩
  exact ⟨_, congrArg (fun z : Int => Ending.returned (.tuple #[.string _, .int .i64 z])) (by decide +kernel), by decide +kernel, X⟩
set_option maxRecDepth 100000 in
theorem rf7 (w : World) (htab : TabPow w) : Calls Tryz.prog 33 #[.string ⟨#[49, 47, 50]⟩, .string ⟨#[49, 47, 51]⟩] w fun e w' => e = .returned (.tuple #[.int .i64 1, .int .i64 0]) ∧ Ext w w' := by
  refine (ratCompare_ok (⟨#[49, 47, 50]⟩ : ByteArray) (⟨#[49, 47, 51]⟩ : ByteArray) w (by decide) (by decide) (by decide +kernel)).mono ?_
  rintro e w' ⟨rfl, X⟩
  exact ⟨congrArg (fun z : Int => Ending.returned (.tuple #[.int .i64 z, .int .i64 0])) (by decide +kernel), X⟩
set_option maxRecDepth 100000 in
theorem rf8 (w : World) (htab : TabPow w) : Calls Tryz.prog 34 #[.string ⟨#[45, 49]⟩] w fun e w' => e = .returned (.tuple #[.int .i64 (-1), .int .i64 0]) ∧ Ext w w' := by
  refine (ratSign_ok (⟨#[45, 49]⟩ : ByteArray) w (by decide) (by decide +kernel)).mono ?_
  rintro e w' ⟨rfl, X⟩
  exact ⟨congrArg (fun z : Int => Ending.returned (.tuple #[.int .i64 z, .int .i64 0])) (by decide +kernel), X⟩
set_option maxRecDepth 100000 in
theorem rf10 (v : Value) (w : World) (htab : TabPow w) (hv : Strs w v [(⟨#[49, 47, 50]⟩ : ByteArray), (⟨#[49, 47, 51]⟩ : ByteArray), (⟨#[49, 47, 54]⟩ : ByteArray)]) : Calls Tryz.prog 41 #[v] w fun e w' => ∃ A, e = .returned (.tuple #[.string A, .int .i64 0]) ∧ A.toList = [49] ∧ Ext w w' := by
  refine (ratSum_any v [(⟨#[49, 47, 50]⟩ : ByteArray), (⟨#[49, 47, 51]⟩ : ByteArray), (⟨#[49, 47, 54]⟩ : ByteArray)] w htab hv (by decide)).mono ?_
  rintro e w' ⟨rfl, X⟩
  exact ⟨_, congrArg (fun z : Int => Ending.returned (.tuple #[.string _, .int .i64 z])) (by decide +kernel), by decide +kernel, X⟩
set_option maxRecDepth 100000 in
theorem rf11 (v : Value) (w : World) (hv : Strs w v [(⟨#[49]⟩ : ByteArray), (⟨#[50]⟩ : ByteArray), (⟨#[50]⟩ : ByteArray)]) : Calls Tryz.prog 42 #[v] w fun e w' => e = .returned (.tuple #[.int .i64 1, .int .i64 0]) ∧ Ext w w' := by
  refine (best_go v [(⟨#[49]⟩ : ByteArray), (⟨#[50]⟩ : ByteArray), (⟨#[50]⟩ : ByteArray)] w hv (by decide) (by decide) (by decide) (by decide +kernel)).mono ?_
  rintro e w' ⟨rfl, X⟩
  exact ⟨congrArg (fun z : Int => Ending.returned (.tuple #[.int .i64 z, .int .i64 0])) (by decide +kernel), X⟩
set_option maxRecDepth 100000 in
theorem rf12 (v : Value) (w : World) (htab : TabPow w) (hv : Strs w v [(⟨#[49]⟩ : ByteArray), (⟨#[51]⟩ : ByteArray)]) : Calls Tryz.prog 43 #[v] w fun e w' => ∃ u, e = .returned (.tuple #[u, .int .i64 0]) ∧ Strs w' u [(⟨#[49, 47, 52]⟩ : ByteArray), (⟨#[51, 47, 52]⟩ : ByteArray)] ∧ Ext w w' := by
  have h1 : (posL [(⟨#[49]⟩ : ByteArray), (⟨#[51]⟩ : ByteArray)]).2 = 0 := by decide +kernel
  have h2 : (posL [(⟨#[49]⟩ : ByteArray), (⟨#[51]⟩ : ByteArray)]).1 ≠ 0 := by decide +kernel
  have h3 : outsG (([(⟨#[49]⟩ : ByteArray), (⟨#[51]⟩ : ByteArray)].map ratOf).map (· / (posL [(⟨#[49]⟩ : ByteArray), (⟨#[51]⟩ : ByteArray)]).1)) = some [(⟨#[49, 47, 52]⟩ : ByteArray), (⟨#[51, 47, 52]⟩ : ByteArray)] := by decide +kernel
  refine (shares_any v [(⟨#[49]⟩ : ByteArray), (⟨#[51]⟩ : ByteArray)] w htab hv (by decide)).mono ?_
  rintro e w' ⟨X, h | h | h | h⟩
  · exact absurd h1 h.1
  · exact absurd h.2.1 h2
  · rw [h3] at h
    exact absurd h.2.2.1 (by simp)
  · obtain ⟨_, _, os, u, e1, rfl, e2⟩ := h
    rw [h3] at e1
    cases e1
    exact ⟨u, rfl, e2, X⟩
theorem rf13 (w : World) : Calls Tryz.prog 16 #[.string ⟨#[50, 47, 52]⟩] w fun e w' => e = .returned (.int .i64 3) ∧ Ext w w' := by
  refine (ratCheck_any (⟨#[50, 47, 52]⟩ : ByteArray) w (by decide)).mono ?_
  rintro e w' ⟨rfl, X⟩
  exact ⟨congrArg (fun z : Int => Ending.returned (.int .i64 z)) (by decide +kernel), X⟩
theorem rf14 (v : Value) (w : World) (hv : Strs w v [(⟨#[48]⟩ : ByteArray), (⟨#[45, 48]⟩ : ByteArray)]) : Calls Tryz.prog 18 #[v] w fun e w' => e = .returned (.int .i64 5) ∧ Ext w w' :=
  checkAll_any v [(⟨#[48]⟩ : ByteArray), (⟨#[45, 48]⟩ : ByteArray)] w hv (by decide) 5 (by decide +kernel)
theorem rf15 (v : Value) (w : World) (htab : TabPow w) (hv : Strs w v [(⟨#[49, 47, 52]⟩ : ByteArray)]) : Calls Tryz.prog 44 #[v] w fun e w' => e = .returned (.int .i64 3) ∧ Ext w w' := by
  refine (odds_any v [(⟨#[49, 47, 52]⟩ : ByteArray)] w htab hv (by decide)).mono ?_
  rintro e w' ⟨rfl, X⟩
  exact ⟨congrArg (fun z : Int => Ending.returned (.int .i64 z)) (by decide +kernel), X⟩
end Go.Proofs.YtmmdfijjpeglgaaGreatDoor
/- walk of ratFact -/
namespace Go.Proofs.YtmmdfijjpeglgaaGreatDoor
open Go.RowKit
set_option linter.unusedVariables false

set_option maxHeartbeats 400000 in
set_option maxRecDepth 100000 in
theorem equal_rats (u v : Value) (xs : List ByteArray) (w : World) (hu : Strs w u xs) (hv : Strs w v xs) :
    Calls Tryz.prog 70 #[u, v] w fun e w' => e = .returned (.bool true) ∧ Ext w w' := by
  obtain ⟨ao, c, rfl, hlen, hc⟩ := hu.open
  obtain ⟨bo, d, rfl, hlen2, hd⟩ := hv.open
  clear hu hv
  have HC := Lib.hid hc
  have HD := Lib.hid hd
  clear hc hd
  go_enter Tryz.func70, Tryz.ntmps70
  go_wp2_with fail
  go_loopw [13] (fun i wr => ∃ k : Nat, k ≤ xs.length ∧ i = .int .i64 k ∧ Ext w wr) (fun i _ => xs.length - (intOf i).toNat)
  case atStart => exact ⟨0, Nat.zero_le _, rfl, Ext.refl _⟩
  case round =>
    obtain ⟨k, hk, rfl, HX⟩ := hrel
    by_cases hlt : k < xs.length
    · obtain ⟨x, h1, h2, h3⟩ := get_lt hlt
      obtain ⟨b, off, rfl, _⟩ := HC.out.at h1
      have hcell := (HC.out.ext HX).at' h1
      obtain ⟨b2, off2, rfl, _⟩ := HD.out.at h1
      have hcell2 := (HD.out.ext HX).at' h1
      have hki : (k : Int) < (xs.length : Int) := by omega
      have hx1 : (x.toList != x.toList) = false := by simp
      have hx2 : (x.toList == x.toList) = true := by simp
      clear hlt
      go_wp2_with fail
      go_quiet (fail)
      go_wp2_with fail
      go_roundw
      case rel => exact ⟨k + 1, by omega, by go_num, HX.drewN _⟩
      case measure => simp [intOf]; omega
    · have hki : (xs.length : Int) ≤ (k : Int) := by omega
      clear hlt
      go_wp2_with fail
      go_ret
      exact ⟨rfl, HX⟩


theorem strs_take1 {w : World} {ao : Option Addr} {n cc : Nat} {a : ByteArray} {l : List ByteArray} (h : Strs w (.slice ao n cc) (a :: l)) : Strs w (.slice ao 1 cc) [a] := by
  obtain ⟨ao2, c2, e, ⟨q1, q2⟩, q3, q4, q5⟩ := h
  simp only [Value.slice.injEq] at e
  obtain ⟨rfl, _, rfl⟩ := e
  refine ⟨_, _, rfl, ⟨q1, ?_⟩, by simp, fun _ => q4 (by simp), fun i u hu => ?_⟩
  · simp at q2 ⊢; omega
  · refine q5 i u ?_
    match i, hu with
    | 0, hu => simpa using hu

set_option maxHeartbeats 3200000 in
set_option maxRecDepth 100000 in
theorem ratFact_any (w : World) (htab : TabPow w) : Calls Tryz.prog 15 #[] w fun e w' => e = .returned (.bool true) ∧ Ext w w' := by
  have H1 := Lib.hid (fun W (hx : Ext w W) => rf1 W (tabPow_ext htab hx))
  have H2 := Lib.hid (fun W (hx : Ext w W) => rf2 W (tabPow_ext htab hx))
  have H3 := Lib.hid (fun W (hx : Ext w W) => rf3 W (tabPow_ext htab hx))
  have H4 := Lib.hid (fun W (hx : Ext w W) => rf4 W (tabPow_ext htab hx))
  have H5 := Lib.hid (fun W (hx : Ext w W) => rf5 W (tabPow_ext htab hx))
  have H6 := Lib.hid (fun W (hx : Ext w W) => rf6 W (tabPow_ext htab hx))
  have H7 := Lib.hid (fun W (hx : Ext w W) => rf7 W (tabPow_ext htab hx))
  have H8 := Lib.hid (fun W (hx : Ext w W) => rf8 W (tabPow_ext htab hx))
  have H9 := Lib.hid (fun W (hx : Ext w W) => rf9 W (tabPow_ext htab hx))
  have H10 := Lib.hid (fun v W (hx : Ext w W) hv => rf10 v W (tabPow_ext htab hx) hv)
  have H11 := Lib.hid (fun v W hv => rf11 v W hv)
  have H12 := Lib.hid (fun v W (hx : Ext w W) hv => rf12 v W (tabPow_ext htab hx) hv)
  have H13 := Lib.hid rf13
  have H14 := Lib.hid rf14
  have H15 := Lib.hid (fun v W (hx : Ext w W) hv => rf15 v W (tabPow_ext htab hx) hv)
  clear htab
  have E0 := Ext.refl w
  go_enter Tryz.func15, Tryz.ntmps15
  go_wp2_with fail
  refine (H1.out _ E0).mono ?_
  rintro e w1 ⟨A1, rfl, a1, X1⟩
  have E1 := E0.trans X1
  clear E0 X1
  go_wp2_with fail
  refine (H2.out _ E1).mono ?_
  rintro e w2 ⟨A2, rfl, a2, X2⟩
  have E2 := E1.trans X2
  clear E1 X2
  go_wp2_with fail
  refine (H3.out _ E2).mono ?_
  rintro e w3 ⟨A3, rfl, a3, X3⟩
  have E3 := E2.trans X3
  clear E2 X3
  go_wp2_with fail
  refine (H4.out _ E3).mono ?_
  rintro e w4 ⟨A4, rfl, a4, X4⟩
  have E4 := E3.trans X4
  clear E3 X4
  go_wp2_with fail
  refine (H5.out _ E4).mono ?_
  rintro e w5 ⟨A5, rfl, a5, X5⟩
  have E5 := E4.trans X5
  clear E4 X5
  go_wp2_with fail
  refine (H6.out _ E5).mono ?_
  rintro e w6 ⟨A6, rfl, a6, X6⟩
  have E6 := E5.trans X6
  clear E5 X6
  go_wp2_with fail
  refine (H7.out _ E6).mono ?_
  rintro e w7 ⟨rfl, X7⟩
  have E7 := E6.trans X7
  clear E6 X7
  go_wp2_with fail
  refine (H8.out _ E7).mono ?_
  rintro e w8 ⟨rfl, X8⟩
  have E8 := E7.trans X8
  clear E7 X8
  go_wp2_with fail
  refine (H9.out _ E8).mono ?_
  rintro e w9 ⟨A9, rfl, a9, X9⟩
  have E9 := E8.trans X9
  clear E8 X9
  go_wp2_with fail
  refine (H10.out _ _ (E9.alloc (.cells #[.string ⟨#[49, 47, 50]⟩, .string ⟨#[49, 47, 51]⟩, .string ⟨#[49, 47, 54]⟩] 22)) (by exact lit_strs_at _ _ ([(⟨#[49, 47, 50]⟩ : ByteArray), (⟨#[49, 47, 51]⟩ : ByteArray), (⟨#[49, 47, 54]⟩ : ByteArray)] : List ByteArray) (by simp) _ (by first | rfl | simp))).mono ?_
  rintro e w10 ⟨A10, rfl, a10, X10⟩
  have E10 := (E9.alloc (.cells #[.string ⟨#[49, 47, 50]⟩, .string ⟨#[49, 47, 51]⟩, .string ⟨#[49, 47, 54]⟩] 22)).trans X10
  clear E9 X10
  go_wp2_with fail
  refine (H11.out _ _ (by exact lit_strs_at _ _ ([(⟨#[49]⟩ : ByteArray), (⟨#[50]⟩ : ByteArray), (⟨#[50]⟩ : ByteArray)] : List ByteArray) (by simp) _ (by first | rfl | simp))).mono ?_
  rintro e w11 ⟨rfl, X11⟩
  have E11 := (E10.alloc (.cells #[.string ⟨#[49]⟩, .string ⟨#[50]⟩, .string ⟨#[50]⟩] 22)).trans X11
  clear E10 X11
  go_wp2_with fail
  refine (H12.out _ _ (E11.alloc (.cells #[.string ⟨#[49]⟩, .string ⟨#[51]⟩] 22)) (by exact lit_strs_at _ _ ([(⟨#[49]⟩ : ByteArray), (⟨#[51]⟩ : ByteArray)] : List ByteArray) (by simp) _ (by first | rfl | simp))).mono ?_
  rintro e w12 ⟨u12, rfl, h12, X12⟩
  have E12 := (E11.alloc (.cells #[.string ⟨#[49]⟩, .string ⟨#[51]⟩] 22)).trans X12
  clear E11 X12
  have HU := Lib.hid h12
  obtain ⟨ao, cc, e12, hlc, hcapc, _, hcs⟩ := h12.open'
  have hl2 : ([(⟨#[49, 47, 52]⟩ : ByteArray), (⟨#[51, 47, 52]⟩ : ByteArray)] : List ByteArray).length = 2 := rfl
  rw [hl2] at e12 hcapc
  subst e12
  have hcc : (2 : Int) ≤ (cc : Int) := by omega
  have HCS := Lib.hid hcs
  clear h12 hlc hcs hl2 hcapc
  have HU1 := Lib.hid (strs_take1 HU.out)
  go_wp2_with fail
  refine (fine_any _ [0, 0, 0, 0, 0, 0, 0, 0, 0, 0, 0, 0] _ (by exact lit_ints_at _ _ ([0, 0, 0, 0, 0, 0, 0, 0, 0, 0, 0, 0] : List Int) (by decide) _ (by first | rfl | simp)) true rfl).mono ?_
  rintro e w13 ⟨rfl, X13⟩
  have F13 := ((Ext.refl w12).alloc _).trans X13
  clear X13
  go_wp2_with fail
  refine (equal_rats _ _ [(⟨#[49, 47, 52]⟩ : ByteArray), (⟨#[51, 47, 52]⟩ : ByteArray)] _ (by exact HU.out.ext (F13.alloc _)) (by exact lit_strs_at _ _ ([(⟨#[49, 47, 52]⟩ : ByteArray), (⟨#[51, 47, 52]⟩ : ByteArray)] : List ByteArray) (by simp) _ (by first | rfl | simp))).mono ?_
  rintro e w14 ⟨rfl, X14⟩
  have F14 := (F13.alloc _).trans X14
  clear F13 X14
  go_wp2_with fail
  refine (H13.out _).mono ?_
  rintro e w15 ⟨rfl, X15⟩
  have F15 := F14.trans X15
  clear F14 X15
  go_wp2_with fail
  refine (H14.out _ _ (by exact lit_strs_at _ _ ([(⟨#[48]⟩ : ByteArray), (⟨#[45, 48]⟩ : ByteArray)] : List ByteArray) (by simp) _ (by first | rfl | simp))).mono ?_
  rintro e w16 ⟨rfl, X16⟩
  have F16 := (F15.alloc _).trans X16
  clear F15 X16
  go_wp2_with fail
  refine (H15.out _ _ (E12.trans F16) (by exact HU1.out.ext F16)).mono ?_
  rintro e w17 ⟨rfl, X17⟩
  go_wp2_with fail
  go_ret
  exact ⟨by first | rfl | simp, (E12.trans F16).trans X17⟩
end Go.Proofs.YtmmdfijjpeglgaaGreatDoor
