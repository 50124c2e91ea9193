/- the law MatrixDots -/
import Derived.Test.YtjnaecicdaiimaaGreatDoorMyA
import Derived.Test.YtjnaecicdaiimaaGreatDoorMxY
namespace Go.Proofs.YtjnaecicdaiimaaGreatDoor
open Go.RowKit
set_option linter.unusedVariables false

set_option maxHeartbeats 3200000 in
set_option maxRecDepth 100000 in
theorem dots_err1 (ao bo : Option Addr) (c d la lb : Nat) (a b : List ByteArray) (w : World) (HA : Hid (Strs w (.slice ao la c) a)) (HB : Hid (Strs w (.slice bo lb d) b)) (S : ByteArray) (z p1 p2 : Int)
    (H0 : Hid (Calls Tryz.prog 26 #[] w fun e w' => e = .returned (.bool true) ∧ Ext w w'))
    (HDT : Hid (∀ W, Ext w W → Calls Tryz.prog 37 #[.slice ao la c, .slice bo lb d] W fun e w' => e = .returned (.tuple #[.string S, .int .i64 z]) ∧ Ext W w'))
    (HVA : Hid (∀ W, Ext w W → Calls Tryz.prog 30 #[.slice ao la c] W fun e w' => e = .returned (.int .i64 p1) ∧ Ext W w'))
    (HVB : Hid (∀ W, Ext w W → Calls Tryz.prog 30 #[.slice bo lb d] W fun e w' => e = .returned (.int .i64 p2) ∧ Ext W w')) (HFF : Hid (firstF [p1, p2] = z)) (hS : S.toList = []) (hz : (z != 0) = true) (hz0 : (z == 0) = false) (hzz : (z == z) = true) :
    Calls Tryz.prog 7 #[.slice ao la c, .slice bo lb d] w fun e w' => e = .returned (.bool true) ∧ Ext w w' := by
  have HFI := Lib.hid (fun x W (h : Ints W x [p1, p2]) => first_any x [p1, p2] W h z HFF)
  have H1 := Lib.hid (fun x W h => weight_any x [a] W h)
  have H2 := Lib.hid (fun x W h => weight_any x [b] W h)
  clear HFF
  go_enter Tryz.func7, Tryz.ntmps7
  go_wp2_with fail
  refine H0.out.mono ?_
  rintro e w1 ⟨rfl, E1⟩
  go_wp2_with fail
  refine (H1.out _ _ (by exact lit_rows_one _ _ (HA.out.ext E1) _ (by first | rfl | simp))).mono ?_
  rintro e w2 ⟨n1, rfl, X2⟩
  have E2 := E1.trans (Ext.trans (by repeat' (first | with_reducible exact Ext.refl _ | with_reducible apply Ext.alloc)) X2)
  clear E1 X2
  go_wp2_with fail
  refine (H2.out _ _ (by exact lit_rows_one _ _ (HB.out.ext E2) _ (by first | rfl | simp))).mono ?_
  rintro e w3 ⟨n2, rfl, X3⟩
  have E3 := E2.trans (Ext.trans (by repeat' (first | with_reducible exact Ext.refl _ | with_reducible apply Ext.alloc)) X3)
  clear E2 X3
  by_cases hn : (6000 : Int) < wrap64 (n1 + n2)
  · go_wp2_with fail
    go_ret
    exact ⟨rfl, E3⟩
  go_wp2_with fail
  refine (HDT.out _ E3).mono ?_
  rintro e w4 ⟨rfl, X4⟩
  have E4 := E3.trans X4
  clear E3 X4
  go_wp2_with fail
  refine (HVA.out _ E4).mono ?_
  rintro e w5 ⟨rfl, X5⟩
  have E5 := E4.trans X5
  clear E4 X5
  go_wp2_with fail
  refine (HVB.out _ E5).mono ?_
  rintro e w6 ⟨rfl, X6⟩
  have E6 := E5.trans X6
  clear E5 X6
  go_wp2_with fail
  refine (HFI.out _ _ (by exact lit_ints_at _ _ ([p1, p2] : List Int) (by simp) _ (by first | rfl | simp))).mono ?_
  rintro e w7 ⟨rfl, hX7⟩
  have E7 := E6.trans (show Ext _ w7 by rw [← hX7]; exact (Ext.refl _).alloc _)
  clear E6 hX7
  go_wp2_with fail
  go_ret
  exact ⟨by first | rfl | simp, E7⟩

set_option maxHeartbeats 3200000 in
set_option maxRecDepth 100000 in
theorem dots_err2 (ao bo : Option Addr) (c d la lb : Nat) (a b : List ByteArray) (w : World) (HA : Hid (Strs w (.slice ao la c) a)) (HB : Hid (Strs w (.slice bo lb d) b)) (S : ByteArray) (z p1 p2 : Int)
    (H0 : Hid (Calls Tryz.prog 26 #[] w fun e w' => e = .returned (.bool true) ∧ Ext w w'))
    (HDT : Hid (∀ W, Ext w W → Calls Tryz.prog 37 #[.slice ao la c, .slice bo lb d] W fun e w' => e = .returned (.tuple #[.string S, .int .i64 z]) ∧ Ext W w'))
    (HVA : Hid (∀ W, Ext w W → Calls Tryz.prog 30 #[.slice ao la c] W fun e w' => e = .returned (.int .i64 p1) ∧ Ext W w'))
    (HVB : Hid (∀ W, Ext w W → Calls Tryz.prog 30 #[.slice bo lb d] W fun e w' => e = .returned (.int .i64 p2) ∧ Ext W w')) (HFF : Hid (firstF [p1, p2] = 0)) (hS : S.toList = []) (hl : ((la : Int) != (lb : Int)) = true) (hz : z = 3) :
    Calls Tryz.prog 7 #[.slice ao la c, .slice bo lb d] w fun e w' => e = .returned (.bool true) ∧ Ext w w' := by
  have HFI := Lib.hid (fun x W (h : Ints W x [p1, p2]) => first_any x [p1, p2] W h 0 HFF)
  have H1 := Lib.hid (fun x W h => weight_any x [a] W h)
  have H2 := Lib.hid (fun x W h => weight_any x [b] W h)
  clear HFF
  go_enter Tryz.func7, Tryz.ntmps7
  go_wp2_with fail
  refine H0.out.mono ?_
  rintro e w1 ⟨rfl, E1⟩
  go_wp2_with fail
  refine (H1.out _ _ (by exact lit_rows_one _ _ (HA.out.ext E1) _ (by first | rfl | simp))).mono ?_
  rintro e w2 ⟨n1, rfl, X2⟩
  have E2 := E1.trans (Ext.trans (by repeat' (first | with_reducible exact Ext.refl _ | with_reducible apply Ext.alloc)) X2)
  clear E1 X2
  go_wp2_with fail
  refine (H2.out _ _ (by exact lit_rows_one _ _ (HB.out.ext E2) _ (by first | rfl | simp))).mono ?_
  rintro e w3 ⟨n2, rfl, X3⟩
  have E3 := E2.trans (Ext.trans (by repeat' (first | with_reducible exact Ext.refl _ | with_reducible apply Ext.alloc)) X3)
  clear E2 X3
  by_cases hn : (6000 : Int) < wrap64 (n1 + n2)
  · go_wp2_with fail
    go_ret
    exact ⟨rfl, E3⟩
  go_wp2_with fail
  refine (HDT.out _ E3).mono ?_
  rintro e w4 ⟨rfl, X4⟩
  have E4 := E3.trans X4
  clear E3 X4
  go_wp2_with fail
  refine (HVA.out _ E4).mono ?_
  rintro e w5 ⟨rfl, X5⟩
  have E5 := E4.trans X5
  clear E4 X5
  go_wp2_with fail
  refine (HVB.out _ E5).mono ?_
  rintro e w6 ⟨rfl, X6⟩
  have E6 := E5.trans X6
  clear E5 X6
  go_wp2_with fail
  refine (HFI.out _ _ (by exact lit_ints_at _ _ ([p1, p2] : List Int) (by simp) _ (by first | rfl | simp))).mono ?_
  rintro e w7 ⟨rfl, hX7⟩
  have E7 := E6.trans (show Ext _ w7 by rw [← hX7]; exact (Ext.refl _).alloc _)
  clear E6 hX7
  subst hz
  go_wp2_with fail
  go_ret
  exact ⟨by first | rfl | simp, E7⟩

set_option maxHeartbeats 3200000 in
set_option maxRecDepth 100000 in
theorem dots_vast (ao bo : Option Addr) (c d la lb : Nat) (a b : List ByteArray) (w : World) (HA : Hid (Strs w (.slice ao la c) a)) (HB : Hid (Strs w (.slice bo lb d) b)) (S : ByteArray) (z p1 p2 : Int)
    (H0 : Hid (Calls Tryz.prog 26 #[] w fun e w' => e = .returned (.bool true) ∧ Ext w w'))
    (HDT : Hid (∀ W, Ext w W → Calls Tryz.prog 37 #[.slice ao la c, .slice bo lb d] W fun e w' => e = .returned (.tuple #[.string S, .int .i64 z]) ∧ Ext W w'))
    (HVA : Hid (∀ W, Ext w W → Calls Tryz.prog 30 #[.slice ao la c] W fun e w' => e = .returned (.int .i64 p1) ∧ Ext W w'))
    (HVB : Hid (∀ W, Ext w W → Calls Tryz.prog 30 #[.slice bo lb d] W fun e w' => e = .returned (.int .i64 p2) ∧ Ext W w')) (HFF : Hid (firstF [p1, p2] = 0)) (hl : ((la : Int) != (lb : Int)) = false)
    (H5 : Hid (∀ v W, MatsV W v [[a, b]] → Calls Tryz.prog 13 #[.int .i64 40, v] W fun e w' => e = .returned (.bool true) ∧ Ext W w')) :
    Calls Tryz.prog 7 #[.slice ao la c, .slice bo lb d] w fun e w' => e = .returned (.bool true) ∧ Ext w w' := by
  have HFI := Lib.hid (fun x W (h : Ints W x [p1, p2]) => first_any x [p1, p2] W h 0 HFF)
  have H1 := Lib.hid (fun x W h => weight_any x [a] W h)
  have H2 := Lib.hid (fun x W h => weight_any x [b] W h)
  clear HFF
  go_enter Tryz.func7, Tryz.ntmps7
  go_wp2_with fail
  refine H0.out.mono ?_
  rintro e w1 ⟨rfl, E1⟩
  go_wp2_with fail
  refine (H1.out _ _ (by exact lit_rows_one _ _ (HA.out.ext E1) _ (by first | rfl | simp))).mono ?_
  rintro e w2 ⟨n1, rfl, X2⟩
  have E2 := E1.trans (Ext.trans (by repeat' (first | with_reducible exact Ext.refl _ | with_reducible apply Ext.alloc)) X2)
  clear E1 X2
  go_wp2_with fail
  refine (H2.out _ _ (by exact lit_rows_one _ _ (HB.out.ext E2) _ (by first | rfl | simp))).mono ?_
  rintro e w3 ⟨n2, rfl, X3⟩
  have E3 := E2.trans (Ext.trans (by repeat' (first | with_reducible exact Ext.refl _ | with_reducible apply Ext.alloc)) X3)
  clear E2 X3
  by_cases hn : (6000 : Int) < wrap64 (n1 + n2)
  · go_wp2_with fail
    go_ret
    exact ⟨rfl, E3⟩
  go_wp2_with fail
  refine (HDT.out _ E3).mono ?_
  rintro e w4 ⟨rfl, X4⟩
  have E4 := E3.trans X4
  clear E3 X4
  go_wp2_with fail
  refine (HVA.out _ E4).mono ?_
  rintro e w5 ⟨rfl, X5⟩
  have E5 := E4.trans X5
  clear E4 X5
  go_wp2_with fail
  refine (HVB.out _ E5).mono ?_
  rintro e w6 ⟨rfl, X6⟩
  have E6 := E5.trans X6
  clear E5 X6
  go_wp2_with fail
  refine (HFI.out _ _ (by exact lit_ints_at _ _ ([p1, p2] : List Int) (by simp) _ (by first | rfl | simp))).mono ?_
  rintro e w7 ⟨rfl, hX7⟩
  have E7 := E6.trans (show Ext _ w7 by rw [← hX7]; exact (Ext.refl _).alloc _)
  clear E6 hX7
  go_wp2_with fail
  refine (H5.out _ _ (by exact lit_mats1 _ _ (lit_rows2 _ _ (HA.out.ext E7) (HB.out.ext E7) _ (by first | rfl | simp)) _ (by first | rfl | simp))).mono ?_
  rintro e w8 ⟨rfl, X8⟩
  have E8 := E7.trans (Ext.trans (by repeat' (first | with_reducible exact Ext.refl _ | with_reducible apply Ext.alloc)) X8)
  clear E7 X8
  go_wp2_with fail
  go_ret
  exact ⟨by first | rfl | simp, E8⟩

set_option maxHeartbeats 3200000 in
set_option maxRecDepth 100000 in
theorem dots_ok (ao bo : Option Addr) (c d la lb : Nat) (a b : List ByteArray) (w : World) (HA : Hid (Strs w (.slice ao la c) a)) (HB : Hid (Strs w (.slice bo lb d) b)) (S : ByteArray) (z p1 p2 : Int)
    (H0 : Hid (Calls Tryz.prog 26 #[] w fun e w' => e = .returned (.bool true) ∧ Ext w w'))
    (HDT : Hid (∀ W, Ext w W → Calls Tryz.prog 37 #[.slice ao la c, .slice bo lb d] W fun e w' => e = .returned (.tuple #[.string S, .int .i64 z]) ∧ Ext W w'))
    (HVA : Hid (∀ W, Ext w W → Calls Tryz.prog 30 #[.slice ao la c] W fun e w' => e = .returned (.int .i64 p1) ∧ Ext W w'))
    (HVB : Hid (∀ W, Ext w W → Calls Tryz.prog 30 #[.slice bo lb d] W fun e w' => e = .returned (.int .i64 p2) ∧ Ext W w')) (HFF : Hid (firstF [p1, p2] = 0)) (hl : ((la : Int) != (lb : Int)) = false) (hz : z = 0) (hSS : (S.toList == S.toList) = true)
    (H5 : Hid (∀ v W, MatsV W v [[a, b]] → Calls Tryz.prog 13 #[.int .i64 40, v] W fun e w' => e = .returned (.bool false) ∧ Ext W w'))
    (H6 : Hid (∀ W, Ext w W → Calls Tryz.prog 24 #[.slice ao la c, .slice bo lb d] W fun e w' => e = .returned (.string S) ∧ Ext W w')) :
    Calls Tryz.prog 7 #[.slice ao la c, .slice bo lb d] w fun e w' => e = .returned (.bool true) ∧ Ext w w' := by
  have HFI := Lib.hid (fun x W (h : Ints W x [p1, p2]) => first_any x [p1, p2] W h 0 HFF)
  have H1 := Lib.hid (fun x W h => weight_any x [a] W h)
  have H2 := Lib.hid (fun x W h => weight_any x [b] W h)
  clear HFF
  go_enter Tryz.func7, Tryz.ntmps7
  go_wp2_with fail
  refine H0.out.mono ?_
  rintro e w1 ⟨rfl, E1⟩
  go_wp2_with fail
  refine (H1.out _ _ (by exact lit_rows_one _ _ (HA.out.ext E1) _ (by first | rfl | simp))).mono ?_
  rintro e w2 ⟨n1, rfl, X2⟩
  have E2 := E1.trans (Ext.trans (by repeat' (first | with_reducible exact Ext.refl _ | with_reducible apply Ext.alloc)) X2)
  clear E1 X2
  go_wp2_with fail
  refine (H2.out _ _ (by exact lit_rows_one _ _ (HB.out.ext E2) _ (by first | rfl | simp))).mono ?_
  rintro e w3 ⟨n2, rfl, X3⟩
  have E3 := E2.trans (Ext.trans (by repeat' (first | with_reducible exact Ext.refl _ | with_reducible apply Ext.alloc)) X3)
  clear E2 X3
  by_cases hn : (6000 : Int) < wrap64 (n1 + n2)
  · go_wp2_with fail
    go_ret
    exact ⟨rfl, E3⟩
  go_wp2_with fail
  refine (HDT.out _ E3).mono ?_
  rintro e w4 ⟨rfl, X4⟩
  have E4 := E3.trans X4
  clear E3 X4
  go_wp2_with fail
  refine (HVA.out _ E4).mono ?_
  rintro e w5 ⟨rfl, X5⟩
  have E5 := E4.trans X5
  clear E4 X5
  go_wp2_with fail
  refine (HVB.out _ E5).mono ?_
  rintro e w6 ⟨rfl, X6⟩
  have E6 := E5.trans X6
  clear E5 X6
  go_wp2_with fail
  refine (HFI.out _ _ (by exact lit_ints_at _ _ ([p1, p2] : List Int) (by simp) _ (by first | rfl | simp))).mono ?_
  rintro e w7 ⟨rfl, hX7⟩
  have E7 := E6.trans (show Ext _ w7 by rw [← hX7]; exact (Ext.refl _).alloc _)
  clear E6 hX7
  subst hz
  go_wp2_with fail
  refine (H5.out _ _ (by exact lit_mats1 _ _ (lit_rows2 _ _ (HA.out.ext E7) (HB.out.ext E7) _ (by first | rfl | simp)) _ (by first | rfl | simp))).mono ?_
  rintro e w8 ⟨rfl, X8⟩
  have E8 := E7.trans (Ext.trans (by repeat' (first | with_reducible exact Ext.refl _ | with_reducible apply Ext.alloc)) X8)
  clear E7 X8
  go_wp2_with fail
  refine (H6.out _ E8).mono ?_
  rintro e w9 ⟨rfl, X9⟩
  have E9 := E8.trans X9
  go_wp2_with fail
  go_ret
  exact ⟨by first | rfl | simp, E9⟩

theorem firstF_vec (p1 p2 : Int) : firstF [p1, p2] = if p1 ≠ 0 then p1 else p2 := by
  unfold firstF
  by_cases h : p1 = 0
  · rw [if_neg (by simpa using h), if_neg (by simpa using h), firstF]
    by_cases h2 : p2 = 0
    · rw [if_neg (by simpa using h2), firstF, h2]
    · rw [if_pos h2]
  · rw [if_pos h, if_pos h]
theorem vast_all {n : Nat} {ms : List (List (List ByteArray))} (h : vastB n ms = false) : ∀ m ∈ ms, m.length ≤ n ∧ ∀ l ∈ m, l.length ≤ n ∧ ∀ s ∈ l, s.size ≤ 12 := fun m hm => by
  unfold vastB at h
  have h0 := List.any_eq_false.1 h m hm
  have h : vastM n m = false := by simpa using h0
  unfold vastM at h
  rw [Bool.or_eq_false_iff, decide_eq_false_iff_not] at h
  refine ⟨by omega, fun l hl => ?_⟩
  have h2 := List.any_eq_false.1 h.2 l hl
  have h2 : vastR n l = false := by simpa using h2
  unfold vastR at h2
  rw [Bool.or_eq_false_iff, decide_eq_false_iff_not] at h2
  refine ⟨by omega, fun s hs => ?_⟩
  have h3 := List.any_eq_false.1 h2.2 s hs
  simp only [decide_eq_true_eq] at h3
  omega
theorem vast_small {n : Nat} {m : List (List ByteArray)} (h : vastB n [m] = false) : m.length ≤ n ∧ ∀ l ∈ m, l.length ≤ n ∧ ∀ s ∈ l, s.size ≤ 12 := vast_all h m (List.mem_cons_self ..)
theorem texts_of {l : List ByteArray} (h : ∀ s ∈ l, RatOk s) : (l.map ratOf).map ratT = l := by
  rw [List.map_map]
  have : l.map (ratT ∘ ratOf) = l.map id := List.map_congr_left fun s hs => (text_ratT (h s hs)).symm
  rw [this, List.map_id]

set_option maxHeartbeats 3200000 in
theorem matrixDots_walk (v u : Value) (a b : List ByteArray) (w : World) (hv : Strs w v a) (hu : Strs w u b) (hs : ∀ s ∈ a, s.size ≤ 9223372036854775806) (hs2 : ∀ s ∈ b, s.size ≤ 9223372036854775806) (htab : TabPow w) :
    Calls Tryz.prog 7 #[v, u] w fun e w' => e = .returned (.bool true) ∧ Ext w w' := by
  have H0 := Lib.hid (matrixFact_any w htab)
  have HVA := Lib.hid (fun W (hx : Ext w W) => rVecError_any v a W (hv.ext hx) hs _ rfl)
  have HVB := Lib.hid (fun W (hx : Ext w W) => rVecError_any u b W (hu.ext hx) hs2 _ rfl)
  have HER : dotE a b ≠ 0 → Hid (∀ W, Ext w W → Calls Tryz.prog 37 #[v, u] W fun e w' => e = .returned (.tuple #[.string ⟨#[]⟩, .int .i64 (dotE a b)]) ∧ Ext W w') := fun h W hx => mDot_err v u a b W (hv.ext hx) (hu.ext hx) hs hs2 h
  have HOK : dotE a b = 0 → ∀ W, Ext w W → Calls Tryz.prog 37 #[v, u] W fun e w' => e = .returned (.tuple #[.string (outF (dotQ (a.map ratOf) (b.map ratOf))).1, .int .i64 (outF (dotQ (a.map ratOf) (b.map ratOf))).2]) ∧ Ext W w' := fun h W hx => mDot_ok v u a b W (tabPow_ext htab hx) (hv.ext hx) (hu.ext hx) hs hs2 h
  have H5 : ∀ q, vastB 40 [[a, b]] = q → Hid (∀ v W, MatsV W v [[a, b]] → Calls Tryz.prog 13 #[.int .i64 40, v] W fun e w' => e = .returned (.bool q) ∧ Ext W w') := fun q hq v W h => vast_any v 40 [[a, b]] W h (by omega) (fun m2 hm r hr s h2 => by
    simp only [List.mem_singleton] at hm
    subst hm
    simp only [List.mem_cons, List.not_mem_nil, or_false] at hr
    rcases hr with rfl | rfl
    · exact hs s h2
    · exact hs2 s h2) q hq
  have H6 : ∀ W, Ext w W → Strs W v a ∧ Strs W u b := fun W hx => ⟨hv.ext hx, hu.ext hx⟩
  have HA := Lib.hid hv
  have HB := Lib.hid hu
  obtain ⟨ao, c, rfl, _, _⟩ := hv.open
  obtain ⟨bo, d, rfl, _, _⟩ := hu.open
  by_cases he : dotE a b = 0
  · obtain ⟨e1, e2, e3⟩ := dotE_zero he
    have hF : Hid (firstF [vecE a, vecE b] = 0) := by show _ = _; rw [firstF_vec, if_neg (by simpa using e1)]; exact e2
    have hl : ((a.length : Int) != (b.length : Int)) = false := by simp [e3]
    cases hvb : vastB 40 [[a, b]] with
    | true => exact dots_vast ao bo c d a.length b.length a b w HA HB _ _ _ _ H0 (HOK he) HVA HVB hF hl (H5 true hvb)
    | false =>
      obtain ⟨ha40, hok1⟩ := vecE_ok hs e1
      obtain ⟨hb40, hok2⟩ := vecE_ok hs2 e2
      obtain ⟨_, hrow⟩ := vast_small hvb
      obtain ⟨_, hsa⟩ := hrow a (List.mem_cons_self ..)
      obtain ⟨_, hsb⟩ := hrow b (List.mem_cons_of_mem _ (List.mem_cons_self ..))
      have hrA : ∀ q ∈ a.map ratOf, RB 12 q := fun q hq => by
        obtain ⟨s, hm, rfl⟩ := List.mem_map.1 hq
        exact ratOf_RB (hok1 s hm).1 (hsa s hm) (by omega)
      have hrB : ∀ q ∈ b.map ratOf, RB 12 q := fun q hq => by
        obtain ⟨s, hm, rfl⟩ := List.mem_map.1 hq
        exact ratOf_RB (hok2 s hm).1 (hsb s hm) (by omega)
      have hO : outF (dotQ (a.map ratOf) (b.map ratOf)) = (ratT (dotQ (a.map ratOf) (b.map ratOf)), 0) := by
        have h1 := dotQ_RB _ _ hrA hrB
        rw [List.length_map] at h1
        unfold outF
        rw [if_pos (fits_RB (k := 1999) (h1.mono (by omega)) (by omega))]
      have hDT := HOK he
      rw [hO] at hDT
      have tA := texts_of (fun s h => (hok1 s h).1)
      have tB := texts_of (fun s h => (hok2 s h).1)
      refine dots_ok ao bo c d a.length b.length a b w HA HB _ _ _ _ H0 hDT HVA HVB hF hl rfl (by simp) (H5 false hvb) ?_
      intro W hx
      obtain ⟨hWa, hWb⟩ := H6 W hx
      exact rDot_any _ _ (a.map ratOf) (b.map ratOf) 12 12 W (by rw [tA]; exact hWa) (by rw [tB]; exact hWb) (by rw [List.length_map, List.length_map, e3]) (by rw [List.length_map]; omega) (by omega) hrA hrB
  · by_cases hf : firstF [vecE a, vecE b] = 0
    · rw [firstF_vec] at hf
      have e1 : vecE a = 0 := by
        by_cases h : vecE a = 0
        · exact h
        · rw [if_pos h] at hf; exact absurd hf h
      have e2 : vecE b = 0 := by rw [if_neg (by simpa using e1)] at hf; exact hf
      have hd3 : dotE a b = 3 ∧ a.length ≠ b.length := by
        unfold dotE at he ⊢
        rw [if_neg (by simpa using e1), if_neg (by simpa using e2)] at he ⊢
        by_cases h : a.length = b.length
        · rw [if_neg (by simpa using h)] at he; exact absurd rfl he
        · rw [if_pos h]; exact ⟨rfl, h⟩
      have hER := HER he
      rw [hd3.1] at hER
      exact dots_err2 ao bo c d a.length b.length a b w HA HB _ _ _ _ H0 hER HVA HVB (by show _ = _; rw [firstF_vec, if_neg (by simpa using e1)]; exact e2) (by simp) (by rw [bne_iff_ne]; have := hd3.2; omega) rfl
    · have hde : dotE a b = firstF [vecE a, vecE b] := by
        rw [firstF_vec] at hf ⊢
        unfold dotE
        by_cases h : vecE a = 0
        · have hna : ¬ vecE a ≠ 0 := by simpa using h
          rw [if_neg hna] at hf
          rw [if_neg hna, if_neg hna, if_pos hf]
        · rw [if_pos h, if_pos h]
      exact dots_err1 ao bo c d a.length b.length a b w HA HB _ _ _ _ H0 (HER he) HVA HVB hde.symm (by simp) (by simpa using he) (by simpa using he) (by simp)
end Go.Proofs.YtjnaecicdaiimaaGreatDoor
