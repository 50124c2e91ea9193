/- the law RegretMatches: its walks -/
import Derived.Test.YtmmdfijjpeglgaaGreatDoorRgY
namespace Go.Proofs.YtmmdfijjpeglgaaGreatDoor
open Go.RowKit
set_option linter.unusedVariables false

theorem lit_rows_one (w : World) (e : TypeId) {v : Value} {l : List ByteArray} (h : Strs w v l) (k : Nat) (hk : k = w.heap.size) :
    Rows Value.string (w.alloc (.cells #[v] e)) (.slice (some ⟨k, 0, none⟩) 1 1) [l] := by
  subst hk
  refine ⟨[v], ⟨_, _, rfl, ⟨fun e => (by cases e), Nat.le_refl _⟩, by simp, fun _ e => (by cases e), fun i u hu => ?_⟩, rfl, fun i u xs a b => ?_⟩
  · match i, hu with
    | 0, hu =>
      simp only [List.getElem?_cons_zero, Option.some.injEq] at hu
      subst hu
      exact ⟨_, _, rfl, by simp [go_sem]⟩
    | i + 1, hu => simp at hu
  · match i, a, b with
    | 0, a, b =>
      simp only [List.getElem?_cons_zero, Option.some.injEq] at a b
      subst a
      subst b
      exact h.ext ((Ext.refl w).alloc _)
    | i + 1, a, b => simp at a
theorem regretFact_tab {w : World} (htab : TabPow w) : Hid (∀ W, Ext w W → Calls Tryz.prog 65 #[] W fun e w' => e = .returned (.bool true) ∧ Ext W w') := fun W hx => regretFact_any W (tabPow_ext htab hx)
theorem posQ_add {a q : Rat} : a + posQ q = if 0 < q.num.sign then a + q else a := by
  unfold posQ
  rcases (show q.num < 0 ∨ q.num = 0 ∨ 0 < q.num by omega) with h | h | h
  · rw [Int.sign_eq_neg_one_of_neg h, if_pos (by omega), if_neg (by omega), Rat.add_zero]
  · rw [h, if_neg (by simp), if_neg (by simp), Rat.num_eq_zero.1 h, Rat.add_zero]
  · rw [Int.sign_eq_one_of_pos h, if_neg (by omega), if_pos (by omega)]
theorem rat_pos {q : Rat} (h : 0 < q.num.sign) : 0 < q := by
  rw [Rat.lt_iff]
  have h2 : 0 < q.num := by
    rcases (show q.num < 0 ∨ q.num = 0 ∨ 0 < q.num by omega) with h1 | h1 | h1
    · rw [Int.sign_eq_neg_one_of_neg h1] at h; omega
    · rw [h1] at h; simp at h
    · exact h1
  simpa using h2
theorem sign_pos {q : Rat} (h : 0 < q) : q.num.sign ≠ 0 := by
  intro e
  rw [Rat.num_eq_zero.1 (Int.sign_eq_zero_iff_zero.1 e)] at h
  exact absurd h (Rat.not_lt.2 Rat.le_refl)
theorem one_div_int (n : Int) : ((1 : Int) : Rat) / (n : Rat) = Rat.divInt 1 n := by
  rw [Rat.divInt_eq_div]

set_option maxHeartbeats 3200000 in
set_option maxRecDepth 100000 in
theorem regretM_none (ao : Option Addr) (c : Nat) (l : List ByteArray) (w : World) (HV : Hid (Strs w (.slice ao l.length c) l)) (hl : ((l.length : Int) == 0) = true) (hli : (l.length : Int) ≤ 12) (e0 : Int)
    (H0 : Hid (∀ W, Ext w W → Calls Tryz.prog 65 #[] W fun e w' => e = .returned (.bool true) ∧ Ext W w'))
    (H1 : Hid (∀ v W, Rows Value.string W v [l] → Calls Tryz.prog 40 #[v] W fun e w' => ∃ n, e = .returned (.int .i64 n) ∧ Ext W w'))
    (H2 : Hid (∀ W, Ext w W → Calls Tryz.prog 69 #[.slice ao l.length c] W fun e w' => e = .returned (.tuple #[.slice none 0 0, .int .i64 8]) ∧ Ext W w'))
    (H3 : Hid (∀ W, Ext w W → Calls Tryz.prog 50 #[.slice ao l.length c] W fun e w' => e = .returned (.int .i64 e0) ∧ Ext W w')) :
    Calls Tryz.prog 14 #[.slice ao l.length c] w fun e w' => e = .returned (.bool true) ∧ Ext w w' := by
  have E0 := Ext.refl w
  go_enter Tryz.func14, Tryz.ntmps14
  go_wp2_with fail
  refine (H0.out _ E0).mono ?_
  rintro e w1 ⟨rfl, X1⟩
  have E1 := E0.trans X1
  clear E0 X1
  go_wp2_with fail
  refine (H1.out _ _ (by exact lit_rows_one _ _ (HV.out.ext E1) _ (by first | rfl | simp))).mono ?_
  rintro e w2 ⟨n, rfl, X2⟩
  have E2 := (E1.alloc (.cells #[.slice ao l.length c] 52)).trans X2
  clear E1 X2
  by_cases hn : (6000 : Int) < n
  · go_wp2_with fail
    go_ret
    exact ⟨rfl, E2⟩
  go_wp2_with fail
  refine (H2.out _ E2).mono ?_
  rintro e w3 ⟨rfl, X3⟩
  have E3 := E2.trans X3
  clear E2 X3
  go_wp2_with fail
  refine (H3.out _ E3).mono ?_
  rintro e w4 ⟨rfl, X4⟩
  have E4 := E3.trans X4
  clear E3 X4
  go_wp2_with fail
  go_ret
  exact ⟨by first | rfl | simp, E4⟩

set_option maxHeartbeats 3200000 in
set_option maxRecDepth 100000 in
theorem regretM_large (ao : Option Addr) (c : Nat) (l : List ByteArray) (w : World) (HV : Hid (Strs w (.slice ao l.length c) l)) (hl : ((l.length : Int) == 0) = false) (hli : (12 : Int) < (l.length : Int)) (e0 : Int)
    (H0 : Hid (∀ W, Ext w W → Calls Tryz.prog 65 #[] W fun e w' => e = .returned (.bool true) ∧ Ext W w'))
    (H1 : Hid (∀ v W, Rows Value.string W v [l] → Calls Tryz.prog 40 #[v] W fun e w' => ∃ n, e = .returned (.int .i64 n) ∧ Ext W w'))
    (H2 : Hid (∀ W, Ext w W → Calls Tryz.prog 69 #[.slice ao l.length c] W fun e w' => e = .returned (.tuple #[.slice none 0 0, .int .i64 2]) ∧ Ext W w'))
    (H3 : Hid (∀ W, Ext w W → Calls Tryz.prog 50 #[.slice ao l.length c] W fun e w' => e = .returned (.int .i64 e0) ∧ Ext W w')) :
    Calls Tryz.prog 14 #[.slice ao l.length c] w fun e w' => e = .returned (.bool true) ∧ Ext w w' := by
  have E0 := Ext.refl w
  go_enter Tryz.func14, Tryz.ntmps14
  go_wp2_with fail
  refine (H0.out _ E0).mono ?_
  rintro e w1 ⟨rfl, X1⟩
  have E1 := E0.trans X1
  clear E0 X1
  go_wp2_with fail
  refine (H1.out _ _ (by exact lit_rows_one _ _ (HV.out.ext E1) _ (by first | rfl | simp))).mono ?_
  rintro e w2 ⟨n, rfl, X2⟩
  have E2 := (E1.alloc (.cells #[.slice ao l.length c] 52)).trans X2
  clear E1 X2
  by_cases hn : (6000 : Int) < n
  · go_wp2_with fail
    go_ret
    exact ⟨rfl, E2⟩
  go_wp2_with fail
  refine (H2.out _ E2).mono ?_
  rintro e w3 ⟨rfl, X3⟩
  have E3 := E2.trans X3
  clear E2 X3
  go_wp2_with fail
  refine (H3.out _ E3).mono ?_
  rintro e w4 ⟨rfl, X4⟩
  have E4 := E3.trans X4
  clear E3 X4
  go_wp2_with fail
  go_ret
  exact ⟨by first | rfl | simp, E4⟩

set_option maxHeartbeats 3200000 in
set_option maxRecDepth 100000 in
theorem regretM_err (ao : Option Addr) (c : Nat) (l : List ByteArray) (w : World) (HV : Hid (Strs w (.slice ao l.length c) l)) (hl : ((l.length : Int) == 0) = false) (hli : (l.length : Int) ≤ 12) (p : Int) (hp : (p != 0) = true) (hpp : (p == p) = true)
    (H0 : Hid (∀ W, Ext w W → Calls Tryz.prog 65 #[] W fun e w' => e = .returned (.bool true) ∧ Ext W w'))
    (H1 : Hid (∀ v W, Rows Value.string W v [l] → Calls Tryz.prog 40 #[v] W fun e w' => ∃ n, e = .returned (.int .i64 n) ∧ Ext W w'))
    (H2 : Hid (∀ W, Ext w W → Calls Tryz.prog 69 #[.slice ao l.length c] W fun e w' => e = .returned (.tuple #[.slice none 0 0, .int .i64 p]) ∧ Ext W w'))
    (H3 : Hid (∀ W, Ext w W → Calls Tryz.prog 50 #[.slice ao l.length c] W fun e w' => e = .returned (.int .i64 p) ∧ Ext W w')) :
    Calls Tryz.prog 14 #[.slice ao l.length c] w fun e w' => e = .returned (.bool true) ∧ Ext w w' := by
  have E0 := Ext.refl w
  go_enter Tryz.func14, Tryz.ntmps14
  go_wp2_with fail
  refine (H0.out _ E0).mono ?_
  rintro e w1 ⟨rfl, X1⟩
  have E1 := E0.trans X1
  clear E0 X1
  go_wp2_with fail
  refine (H1.out _ _ (by exact lit_rows_one _ _ (HV.out.ext E1) _ (by first | rfl | simp))).mono ?_
  rintro e w2 ⟨n, rfl, X2⟩
  have E2 := (E1.alloc (.cells #[.slice ao l.length c] 52)).trans X2
  clear E1 X2
  by_cases hn : (6000 : Int) < n
  · go_wp2_with fail
    go_ret
    exact ⟨rfl, E2⟩
  go_wp2_with fail
  refine (H2.out _ E2).mono ?_
  rintro e w3 ⟨rfl, X3⟩
  have E3 := E2.trans X3
  clear E2 X3
  go_wp2_with fail
  refine (H3.out _ E3).mono ?_
  rintro e w4 ⟨rfl, X4⟩
  have E4 := E3.trans X4
  clear E3 X4
  go_wp2_with fail
  go_ret
  exact ⟨by first | rfl | simp, E4⟩

set_option maxHeartbeats 3200000 in
set_option maxRecDepth 100000 in
theorem regretM_vast (ao : Option Addr) (c : Nat) (l : List ByteArray) (w : World) (HV : Hid (Strs w (.slice ao l.length c) l)) (hl : ((l.length : Int) == 0) = false) (hli : (l.length : Int) ≤ 12) (qs : List Rat)
    (H0 : Hid (∀ W, Ext w W → Calls Tryz.prog 65 #[] W fun e w' => e = .returned (.bool true) ∧ Ext W w'))
    (H1 : Hid (∀ v W, Rows Value.string W v [l] → Calls Tryz.prog 40 #[v] W fun e w' => ∃ n, e = .returned (.int .i64 n) ∧ Ext W w'))
    (H2 : Hid (∀ W, Ext w W → Calls Tryz.prog 69 #[.slice ao l.length c] W (VecPost qs W)))
    (H3 : Hid (∀ W, Ext w W → Calls Tryz.prog 50 #[.slice ao l.length c] W fun e w' => e = .returned (.int .i64 0) ∧ Ext W w'))
    (H4 : Hid (∀ v W, MatsV W v [[l]] → Calls Tryz.prog 56 #[.int .i64 12, v] W fun e w' => e = .returned (.bool true) ∧ Ext W w')) :
    Calls Tryz.prog 14 #[.slice ao l.length c] w fun e w' => e = .returned (.bool true) ∧ Ext w w' := by
  have E0 := Ext.refl w
  go_enter Tryz.func14, Tryz.ntmps14
  go_wp2_with fail
  refine (H0.out _ E0).mono ?_
  rintro e w1 ⟨rfl, X1⟩
  have E1 := E0.trans X1
  clear E0 X1
  go_wp2_with fail
  refine (H1.out _ _ (by exact lit_rows_one _ _ (HV.out.ext E1) _ (by first | rfl | simp))).mono ?_
  rintro e w2 ⟨n, rfl, X2⟩
  have E2 := (E1.alloc (.cells #[.slice ao l.length c] 52)).trans X2
  clear E1 X2
  by_cases hn : (6000 : Int) < n
  · go_wp2_with fail
    go_ret
    exact ⟨rfl, E2⟩
  go_wp2_with fail
  refine (H2.out _ E2).mono ?_
  rintro e w3 ⟨X3, h3⟩
  have E3 := E2.trans X3
  clear E2 X3
  rcases h3 with ⟨_, rfl⟩ | ⟨os, u, _, rfl, hst⟩
  · go_wp2_with fail
    refine (H3.out _ E3).mono ?_
    rintro e w4 ⟨rfl, X4⟩
    have E4 := E3.trans X4
    clear E3 X4
    go_wp2_with fail
    refine (H4.out _ _ (by exact lit_mats1 _ _ (lit_rows_one _ _ (HV.out.ext E4) _ (by first | rfl | simp)) _ (by first | rfl | simp))).mono ?_
    rintro e w5 ⟨rfl, X5⟩
    have E5 := Ext.trans (by repeat' (first | exact E4 | apply Ext.alloc)) X5
    clear E4 X5
    go_wp2_with fail
    go_ret
    exact ⟨by first | rfl | simp, E5⟩
  · obtain ⟨ao2, c2, rfl, _, _⟩ := hst.open
    clear hst
    go_wp2_with fail
    refine (H3.out _ E3).mono ?_
    rintro e w4 ⟨rfl, X4⟩
    have E4 := E3.trans X4
    clear E3 X4
    go_wp2_with fail
    refine (H4.out _ _ (by exact lit_mats1 _ _ (lit_rows_one _ _ (HV.out.ext E4) _ (by first | rfl | simp)) _ (by first | rfl | simp))).mono ?_
    rintro e w5 ⟨rfl, X5⟩
    have E5 := Ext.trans (by repeat' (first | exact E4 | apply Ext.alloc)) X5
    clear E4 X5
    go_wp2_with fail
    go_ret
    exact ⟨by first | rfl | simp, E5⟩

set_option maxHeartbeats 6400000 in
set_option maxRecDepth 100000 in
theorem regretM_full (ao : Option Addr) (c : Nat) (l : List ByteArray) (w : World) (HV : Hid (Strs w (.slice ao l.length c) l)) (hl : ((l.length : Int) == 0) = false) (hli : (l.length : Int) ≤ 12) (hl0 : 0 < l.length) (SUM : Rat) (os : List ByteArray) (HOL : Hid (os.length = l.length))
    (HF : Hid (posS (l.map ratOf) 0 = SUM)) (HRB : Hid (∀ s ∈ l, RB 12 (ratOf s)))
    (HOS : Hid (∀ (i : Nat) (s : ByteArray), l[i]? = some s → os[i]? = some (ratT (parQ SUM l.length (posQ (ratOf s))))))
    (H0 : Hid (∀ W, Ext w W → Calls Tryz.prog 65 #[] W fun e w' => e = .returned (.bool true) ∧ Ext W w'))
    (H1 : Hid (∀ v W, Rows Value.string W v [l] → Calls Tryz.prog 40 #[v] W fun e w' => ∃ n, e = .returned (.int .i64 n) ∧ Ext W w'))
    (H2 : Hid (∀ W, Ext w W → Calls Tryz.prog 69 #[.slice ao l.length c] W fun e w' => ∃ u, e = .returned (.tuple #[u, .int .i64 0]) ∧ Strs w' u os ∧ Ext W w'))
    (H3 : Hid (∀ W, Ext w W → Calls Tryz.prog 50 #[.slice ao l.length c] W fun e w' => e = .returned (.int .i64 0) ∧ Ext W w'))
    (H4 : Hid (∀ v W, MatsV W v [[l]] → Calls Tryz.prog 56 #[.int .i64 12, v] W fun e w' => e = .returned (.bool false) ∧ Ext W w'))
    (HSGN : Hid (∀ (s : ByteArray) W, s ∈ l → Calls Tryz.prog 38 #[.string s] W fun e w' => e = .returned (.int .i64 (ratOf s).num.sign) ∧ Ext W w'))
    (HADD : Hid (∀ (s : ByteArray) (a : Rat) (k : Nat) W, s ∈ l → RB k a → k ≤ 10000 → Calls Tryz.prog 27 #[.string (ratT a), .string s] W fun e w' => e = .returned (.string (ratT (a + ratOf s))) ∧ Ext W w'))
    (HDIV : Hid (∀ (s : ByteArray) (a : Rat) (k : Nat) W, s ∈ l → RB k a → k ≤ 10000 → a ≠ 0 → Calls Tryz.prog 21 #[.string s, .string (ratT a)] W fun e w' => e = .returned (.string (ratT (ratOf s / a))) ∧ Ext W w'))
    (HINT : Hid (∀ W, Calls Tryz.prog 22 #[.int .i64 (l.length : Int)] W fun e w' => e = .returned (.string (ratT (((l.length : Nat) : Int) : Rat))) ∧ Ext W w'))
    (HDV1 : Hid (∀ W, Calls Tryz.prog 21 #[.string ⟨#[49]⟩, .string (ratT (((l.length : Nat) : Int) : Rat))] W fun e w' => e = .returned (.string (ratT (Rat.divInt 1 (l.length : Int)))) ∧ Ext W w')) :
    Calls Tryz.prog 14 #[.slice ao l.length c] w fun e w' => e = .returned (.bool true) ∧ Ext w w' := by
  have E0 := Ext.refl w
  go_enter Tryz.func14, Tryz.ntmps14
  go_wp2_with fail
  refine (H0.out _ E0).mono ?_
  rintro e w1 ⟨rfl, X1⟩
  have E1 := E0.trans X1
  clear E0 X1
  go_wp2_with fail
  refine (H1.out _ _ (by exact lit_rows_one _ _ (HV.out.ext E1) _ (by first | rfl | simp))).mono ?_
  rintro e w2 ⟨n, rfl, X2⟩
  have E2 := (E1.alloc (.cells #[.slice ao l.length c] 52)).trans X2
  clear E1 X2
  by_cases hn : (6000 : Int) < n
  · go_wp2_with fail
    go_ret
    exact ⟨rfl, E2⟩
  go_wp2_with fail
  refine (H2.out _ E2).mono ?_
  rintro e w3 ⟨u, rfl, hst, X3⟩
  have E3 := E2.trans X3
  clear E2 X3
  obtain ⟨ao2, c2, rfl, _, hc2⟩ := hst.open
  have HC2 := Lib.hid hc2
  rw [HOL.out]
  clear hst hc2
  go_wp2_with fail
  refine (H3.out _ E3).mono ?_
  rintro e w4 ⟨rfl, X4⟩
  have HC2 := Lib.hid (HC2.out.ext X4)
  have E4 := E3.trans X4
  clear E3 X4
  go_wp2_with fail
  refine (H4.out _ _ (by exact lit_mats1 _ _ (lit_rows_one _ _ (HV.out.ext E4) _ (by first | rfl | simp)) _ (by first | rfl | simp))).mono ?_
  rintro e w5 ⟨rfl, X5⟩
  have Y5 : Ext w4 w5 := Ext.trans (by repeat' (first | exact Ext.refl _ | apply Ext.alloc)) X5
  have HC2 := Lib.hid (HC2.out.ext Y5)
  have E5 := E4.trans Y5
  have HVC := Lib.hid (HV.out.ext E5)
  obtain ⟨ao', c', ev, _, hcl⟩ := HVC.out.open
  simp only [Value.slice.injEq, true_and] at ev
  obtain ⟨rfl, rfl⟩ := ev
  have HCL := Lib.hid hcl
  clear E4 X5 Y5 HV HVC hcl H0 H1 H2 H3 H4
  obtain ⟨wo, rfl⟩ : ∃ wo : World, wo = w5 := ⟨_, rfl⟩
  go_wp2_with fail
  go_loopw [6, 7, 48] (fun sv mv iv wr => ∃ (i : Nat) (acc : Rat) (k : Nat), i ≤ l.length ∧ iv = .int .i64 i ∧ sv = .string (ratT acc) ∧ mv = .int .i64 k ∧ k ≤ i ∧ Hid (RB (1 + 13 * i) acc) ∧ Hid (posS ((l.map ratOf).drop i) acc = SUM) ∧ Hid (0 ≤ acc ∧ (k = 0 → acc = 0) ∧ (0 < k → 0 < acc)) ∧ Ext wo wr) (fun _ _ iv _ => l.length - (intOf iv).toNat)
  case atStart => exact ⟨0, 0, 0, Nat.zero_le _, rfl, by rw [ratT_zero], rfl, Nat.le_refl _, RB_zero, by show _ = _; rw [List.drop_zero]; exact HF.out, ⟨Rat.le_refl, fun _ => rfl, fun h => by omega⟩, Ext.refl _⟩
  case round =>
    obtain ⟨i, acc, k, hi, rfl, rfl, rfl, hk, HR, HI, HZ, X⟩ := hrel
    by_cases hlt : i < l.length
    · obtain ⟨s, d1, d2, _⟩ := get_lt hlt
      obtain ⟨b, off, rfl, hc0⟩ := (HCL.out.ext X) i (Value.string s) (by rw [List.getElem?_map, d1.out]; rfl)
      have hcell : wr.cell? ⟨b, off + i, none⟩ = some (.string s) := hc0
      have hki : (i : Int) < (l.length : Int) := by omega
      have hm := List.mem_of_getElem? d1.out
      have hi2 := HI.out
      rw [← List.map_drop, d2.out, List.map_cons] at hi2
      have hi3 : posS ((l.drop (i + 1)).map ratOf) (acc + posQ (ratOf s)) = SUM := hi2
      rw [posQ_add] at hi3
      have HS := Lib.hid (fun W => HSGN.out s W hm)
      have HA := Lib.hid (fun W => HADD.out s acc _ W hm HR.out (by omega))
      have hrb := HRB.out s hm
      have HBN : Hid (RB (1 + 13 * (i + 1)) (acc + ratOf s)) := by
        show RB _ _
        exact (RB_add HR.out hrb).mono (by omega)
      have HBS : Hid (RB (1 + 13 * (i + 1)) acc) := by
        show RB _ _
        exact HR.out.mono (by omega)
      have hkk : (k : Int) ≤ 12 := by omega
      have hz := HZ.out
      have hsp : 0 < (ratOf s).num.sign → 0 < ratOf s := rat_pos
      clear hc0 hi2 HI hm hrb HR HZ
      generalize ratOf s = q at *
      generalize q.num.sign = sg0 at *
      by_cases hs0 : 0 < sg0
      · rw [if_pos hs0] at hi3
        have HIN : Hid (posS ((l.map ratOf).drop (i + 1)) (acc + q) = SUM) := by show _ = _; rw [← List.map_drop]; exact hi3
        have HZN : Hid (0 ≤ acc + q ∧ (k + 1 = 0 → acc + q = 0) ∧ (0 < k + 1 → 0 < acc + q)) := by
          have h1 := hsp hs0
          have h2 := hz.1
          exact ⟨by grind, fun h => by omega, fun _ => by grind⟩
        clear hi3 hz hsp
        go_wp2_with fail
        refine (HS.out _).mono ?_
        rintro e w6 ⟨rfl, X6⟩
        go_wp2_with fail
        refine (HA.out _).mono ?_
        rintro e w7 ⟨rfl, X7⟩
        go_wp2_with fail
        go_roundw
        case rel => exact ⟨i + 1, acc + q, k + 1, by omega, by go_num, rfl, by go_num, by omega, HBN, HIN, HZN, (X.trans X6).trans X7⟩
        case measure => simp [intOf] <;> omega
      · rw [if_neg hs0] at hi3
        have HIN : Hid (posS ((l.map ratOf).drop (i + 1)) acc = SUM) := by show _ = _; rw [← List.map_drop]; exact hi3
        have HZN := Lib.hid hz
        clear hi3 hz hsp HA HBN
        go_wp2_with fail
        refine (HS.out _).mono ?_
        rintro e w6 ⟨rfl, X6⟩
        go_wp2_with fail
        go_roundw
        case rel => exact ⟨i + 1, acc, k, by omega, by go_num, rfl, rfl, by omega, HBS, HIN, HZN, X.trans X6⟩
        case measure => simp [intOf] <;> omega
    · have hil : l.length = i := by omega
      have hi2 := HI.out
      rw [← hil, ← List.length_map (f := ratOf), List.drop_length] at hi2
      have hsa : acc = SUM := hi2
      have hz := HZ.out
      rw [hsa] at hz HR ⊢
      have HSB := Lib.hid HR.out
      have XX := E5.trans X
      have HC3 := Lib.hid (HC2.out.ext X)
      have HL3 := Lib.hid (HCL.out.ext X)
      obtain ⟨wp, rfl⟩ : ∃ wp : World, wp = wr := ⟨_, rfl⟩
      have hi12 : 1 + 13 * i ≤ 10000 := by omega
      clear hil hi2 HI HZ HR HF HADD HCL HC2 X E5 hsa hi
      have LOOP : True := trivial
      by_cases hk0 : k = 0
      · have HS0 := Lib.hid (hz.2.1 hk0)
        have hb0 : ((k : Int) == 0) = true := by rw [hk0]; rfl
        clear hz hk hk0
        go_wp2_with fail
        go_loopw [72] (fun iv wr => ∃ (i : Nat), i ≤ l.length ∧ iv = .int .i64 i ∧ Ext wp wr) (fun iv _ => l.length - (intOf iv).toNat)
        case atStart => exact ⟨0, Nat.zero_le _, rfl, Ext.refl _⟩
        case round =>
          obtain ⟨i, hi, rfl, X⟩ := hrel
          by_cases hlt : i < l.length
          · obtain ⟨s, d1, _, _⟩ := get_lt hlt
            obtain ⟨b, off, rfl, hc0⟩ := (HL3.out.ext X) i (Value.string s) (by rw [List.getElem?_map, d1.out]; rfl)
            have hcell : wr.cell? ⟨b, off + i, none⟩ = some (.string s) := hc0
            obtain ⟨b2, off2, rfl, hc02⟩ := HC3.out i (Value.string (ratT (parQ SUM l.length (posQ (ratOf s))))) (by rw [List.getElem?_map, HOS.out i s d1.out]; rfl)
            have hr : parQ SUM l.length (posQ (ratOf s)) = Rat.divInt 1 (l.length : Int) := by unfold parQ; rw [HS0.out]; rfl
            rw [hr] at hc02
            have HP2 := Lib.hid hc02
            have hki : (i : Int) < (l.length : Int) := by omega
            clear hc0 hr hc02 hlt
            go_wp2_with fail
            refine (HINT.out _).mono ?_
            rintro e w6 ⟨rfl, X6⟩
            go_wp2_with fail
            refine (HDV1.out _).mono ?_
            rintro e w7 ⟨rfl, X7⟩
            have XZ := (X.trans X6).trans X7
            have hp2 : w7.cell? ⟨b2, off2 + i, none⟩ = some (.string (ratT (Rat.divInt 1 (l.length : Int)))) := XZ.cell HP2.out
            have hbe : ((ratT (Rat.divInt 1 (l.length : Int))).toList != (ratT (Rat.divInt 1 (l.length : Int))).toList) = false := by simp
            clear hcell
            go_wp2_with fail
            go_roundw
            case rel => exact ⟨i + 1, by omega, by go_num, XZ⟩
            case measure => simp [intOf] <;> omega
          · go_wp2_with fail
            go_ret
            exact ⟨rfl, XX.trans X⟩
      · have hS0 := hz.2.2 (by omega)
        have hne : SUM ≠ 0 := fun e => by rw [e] at hS0; exact absurd hS0 (Rat.not_lt.2 Rat.le_refl)
        have hsz := sign_pos hS0
        have hb0 : ((k : Int) == 0) = false := by rw [beq_eq_false_iff_ne]; omega
        have HNE := Lib.hid hne
        have HSZ := Lib.hid hsz
        clear hz hk hk0 hS0 hne hsz
        go_wp2_with fail
        go_loopw [72] (fun iv wr => ∃ (i : Nat), i ≤ l.length ∧ iv = .int .i64 i ∧ Ext wp wr) (fun iv _ => l.length - (intOf iv).toNat)
        case atStart => exact ⟨0, Nat.zero_le _, rfl, Ext.refl _⟩
        case round =>
          obtain ⟨i, hi, rfl, X⟩ := hrel
          by_cases hlt : i < l.length
          · obtain ⟨s, d1, _, _⟩ := get_lt hlt
            obtain ⟨b, off, rfl, hc0⟩ := (HL3.out.ext X) i (Value.string s) (by rw [List.getElem?_map, d1.out]; rfl)
            have hcell : wr.cell? ⟨b, off + i, none⟩ = some (.string s) := hc0
            obtain ⟨b2, off2, rfl, hc02⟩ := HC3.out i (Value.string (ratT (parQ SUM l.length (posQ (ratOf s))))) (by rw [List.getElem?_map, HOS.out i s d1.out]; rfl)
            have hm := List.mem_of_getElem? d1.out
            have hki : (i : Int) < (l.length : Int) := by omega
            have HS := Lib.hid (fun W => HSGN.out s W hm)
            have HD := Lib.hid (fun W => HDIV.out s SUM _ W hm HSB.out hi12 HNE.out)
            have hpar : parQ SUM l.length (posQ (ratOf s)) = posQ (ratOf s) / SUM := by unfold parQ; rw [if_neg HSZ.out]
            rw [hpar] at hc02
            clear hc0 hpar hlt hm
            by_cases hs0 : 0 < (ratOf s).num.sign
            · have hpq : posQ (ratOf s) = ratOf s := by unfold posQ; rw [if_neg (by omega)]
              rw [hpq] at hc02
              have HP2 := Lib.hid hc02
              clear hpq hc02
              generalize (ratOf s).num.sign = sg0 at *
              go_wp2_with fail
              refine (HS.out _).mono ?_
              rintro e w6 ⟨rfl, X6⟩
              go_wp2_with fail
              refine (HD.out _).mono ?_
              rintro e w7 ⟨rfl, X7⟩
              have XZ := (X.trans X6).trans X7
              have hp2 := XZ.cell HP2.out
              have hp2 : w7.cell? ⟨b2, off2 + i, none⟩ = some (.string (ratT (ratOf s / SUM))) := hp2
              generalize ratT (ratOf s / SUM) = A at *
              have hbe : (A.toList != A.toList) = false := by simp
              clear hcell
              go_wp2_with fail
              go_roundw
              case rel => exact ⟨i + 1, by omega, by go_num, XZ⟩
              case measure => simp [intOf] <;> omega
            · have hpq : posQ (ratOf s) / SUM = 0 := by
                have h1 := @posQ_add 0 (ratOf s)
                rw [if_neg hs0, Rat.zero_add] at h1
                rw [h1, Rat.div_def, Rat.zero_mul]
              rw [hpq, ratT_zero] at hc02
              have HP2 := Lib.hid hc02
              clear hpq hc02
              generalize (ratOf s).num.sign = sg0 at *
              go_wp2_with fail
              refine (HS.out _).mono ?_
              rintro e w6 ⟨rfl, X6⟩
              have XZ := X.trans X6
              have hp2 : w6.cell? ⟨b2, off2 + i, none⟩ = some (.string ⟨#[48]⟩) := XZ.cell HP2.out
              clear hcell
              go_wp2_with fail
              go_roundw
              case rel => exact ⟨i + 1, by omega, by go_num, XZ⟩
              case measure => simp [intOf] <;> omega
          · go_wp2_with fail
            go_ret
            exact ⟨rfl, XX.trans X⟩
end Go.Proofs.YtmmdfijjpeglgaaGreatDoor
