/- the law RegretAverages: its walks -/
import Derived.Test.YtjnaecicdaiimaaGreatDoorRgU
import Derived.Test.YtjnaecicdaiimaaGreatDoorRxA
namespace Go.Proofs.YtjnaecicdaiimaaGreatDoor
open Go.RowKit
set_option linter.unusedVariables false

theorem bestS_div {n : Rat} (hn : 0 < n) (sg : Int) (hs : sg = 1 ∨ sg = -1) (x : List Rat) : ∀ (t : List Rat) (i b : Nat), bestS sg (x.map (· / n)) (t.map (· / n)) i b = bestS sg x t i b
  | [], i, b => rfl
  | q :: t, i, b => by
    have e : (x.map (· / n)).getD b 0 = x.getD b 0 / n := by
      rw [List.getD_eq_getElem?_getD, List.getD_eq_getElem?_getD, List.getElem?_map]
      cases x[b]? with
      | none => show (0 : Rat) = 0 / n; rw [Rat.div_def, Rat.zero_mul]
      | some y => rfl
    rw [List.map_cons, bestS, bestS, e, bestS_div hn sg hs x t, bestS_div hn sg hs x t]
    have : 0 < cmpQ (q / n) (x.getD b 0 / n) * sg ↔ 0 < cmpQ q (x.getD b 0) * sg := by
      rcases hs with rfl | rfl
      · rw [Int.mul_one]; exact up_div hn
      · have h1 := down_div (a := q) (b := x.getD b 0) hn
        constructor
        · intro h; exact h1.1 (by omega)
        · intro h; have := h1.2 h; omega
    by_cases h : 0 < cmpQ q (x.getD b 0) * sg
    · rw [if_pos h, if_pos (this.2 h)]
    · rw [if_neg h, if_neg (fun h2 => h (this.1 h2))]

set_option maxHeartbeats 1600000 in
set_option maxRecDepth 100000 in
theorem part_any (bl k n d : Nat) (bo : Option Addr) (w : World) (hl : w.cell? ⟨bl, 0, none⟩ = some (.slice bo n d)) (hk : k ≤ 1000) (hn : n ≤ 1000) (hn0 : 0 < n) :
    Calls Tryz.prog 21 #[.int .i64 (k : Int), .pointer (some ⟨bl, 0, none⟩)] w fun e w' => e = .returned (.string (ratT (((k : Int) : Rat) / ((n : Int) : Rat)))) ∧ Ext w w' := by
  have HI1 := Lib.hid (fun W => rInt_any (k : Int) W (by omega) (by omega))
  have HI2 := Lib.hid (fun W => rInt_any (n : Int) W (by omega) (by omega))
  have hrb : ∀ j : Nat, j ≤ 1000 → RB 4 ((j : Int) : Rat) := fun j hj => by
    refine ⟨?_, ?_⟩
    · rw [Rat.num_intCast]; omega
    · rw [Rat.den_intCast]; omega
  have HDV := Lib.hid (fun W => rDiv_any (by omega) (hrb k hk) (hrb n hn) (by rw [Rat.num_intCast]; omega) W)
  generalize ((k : Int) : Rat) / ((n : Int) : Rat) = Q at *
  obtain ⟨wo, rfl⟩ : ∃ wo : World, wo = w := ⟨_, rfl⟩
  clear hrb
  go_enter Tryz.func21, Tryz.ntmps21
  go_wp2_with fail
  go_region_held3 (fun w' => w'.cell? ⟨bl, 0, none⟩ = some (.slice bo n d))
    (first | exact hl | exact Xa.cell hl | exact Xb.cell hl | exact Xc.cell hl | go_keep)
    (first
      | (go_at_call_of 23 (Value.int .i64 (k : Int)); refine (HI1.out _).mono ?_; rintro e wa ⟨rfl, Ya⟩; have Xa : Ext wo wa := (Ext.refl wo).drew.trans Ya)
      | (go_at_call_of 23 (Value.int .i64 (n : Int)); refine (HI2.out _).mono ?_; rintro e wb ⟨rfl, Yb⟩; have Xb : Ext wo wb := Xa.trans Yb)
      | (go_at_call 22; refine (HDV.out _).mono ?_; rintro e wc ⟨rfl, Yc⟩; have Xc : Ext wo wc := Xb.trans Yc))
  all_goals
    go_wp2_with fail
    go_ret
    exact ⟨rfl, Xc⟩

set_option maxHeartbeats 3200000 in
set_option maxRecDepth 100000 in
theorem avgs_err1 (ao : Option Addr) (bo : Option Addr) (c d nr : Nat) (m : List (List ByteArray)) (ps : List (Int × Int)) (w : World) (HV : Hid (Rows Value.string w (.slice ao nr c) m)) (p : Int) (hp : (p != 0) = true) (hp0 : (p == 0) = false) (hpp : (p == p) = true)
    (H0 : Hid (∀ W, Ext w W → Calls Tryz.prog 9 #[] W fun e w' => e = .returned (.bool true) ∧ Ext W w'))
    (H1 : Hid (∀ W, Ext w W → Calls Tryz.prog 10 #[.slice ao nr c] W fun e w' => ∃ n, e = .returned (.int .i64 n) ∧ Ext W w'))
    (H2 : Hid (∀ W, Ext w W → Calls Tryz.prog 18 #[.slice ao nr c, .slice bo ps.length d] W fun e w' => e = .returned (.tuple #[.slice none 0 0, .slice none 0 0, .int .i64 p]) ∧ Ext W w'))
    (H3 : Hid (∀ W, Ext w W → Calls Tryz.prog 19 #[.slice ao nr c, .slice bo ps.length d] W fun e w' => e = .returned (.tuple #[.string ⟨#[]⟩, .string ⟨#[]⟩, .int .i64 p]) ∧ Ext W w'))
    (H4 : Hid (∀ W, Ext w W → Calls Tryz.prog 20 #[.slice ao nr c, .slice bo ps.length d] W fun e w' => e = .returned (.int .i64 p) ∧ Ext W w')) :
    Calls Tryz.prog 4 #[.slice ao nr c, .slice bo ps.length d] w fun e w' => e = .returned (.bool true) ∧ Ext w w' := by
  obtain ⟨bl, hbl⟩ : ∃ bl, w.heap.size = bl := ⟨_, rfl⟩
  obtain ⟨W0, hW0⟩ : ∃ W0, w.alloc (.cells #[.slice bo ps.length d] 26) = W0 := ⟨_, rfl⟩
  have E0 : Ext w W0 := by rw [← hW0]; exact (Ext.refl w).alloc _
  have k0 : W0.cell? ⟨bl, 0, none⟩ = some (.slice bo ps.length d) := by rw [← hW0, ← hbl]; simp [go_sem]
  go_enter Tryz.func4, Tryz.ntmps4
  go_wp2_with fail
  clear hW0 hbl
  refine (H0.out _ E0).mono ?_
  rintro e w1 ⟨rfl, X1⟩
  have E1 := E0.trans X1
  have k1 := X1.cell k0
  clear E0 X1 k0
  go_wp2_with fail
  refine (H1.out _ E1).mono ?_
  rintro e w2 ⟨n1, rfl, X2⟩
  have E2 := E1.trans X2
  have k2 := X2.cell k1
  clear E1 X2 k1
  by_cases hn : (6000 : Int) < n1
  · go_wp2_with fail
    go_ret
    exact ⟨rfl, E2⟩
  go_wp2_with fail
  refine (H2.out _ E2).mono ?_
  rintro e w3 ⟨rfl, X3⟩
  have E3 := E2.trans X3
  have k3 := X3.cell k2
  clear E2 X3 k2
  go_wp2_with fail
  refine (H3.out _ E3).mono ?_
  rintro e w4 ⟨rfl, X4⟩
  have E4 := E3.trans X4
  have k4 := X4.cell k3
  clear E3 X4 k3
  go_wp2_with fail
  refine (H4.out _ E4).mono ?_
  rintro e w5 ⟨rfl, X5⟩
  have E5 := E4.trans X5
  have k5 := X5.cell k4
  clear E4 X5 k4
  go_wp2_with fail
  go_ret
  exact ⟨by first | rfl | simp, E5⟩

set_option maxHeartbeats 3200000 in
set_option maxRecDepth 100000 in
theorem avgs_err2 (ao : Option Addr) (bo : Option Addr) (c d nr : Nat) (m : List (List ByteArray)) (ps : List (Int × Int)) (w : World) (HV : Hid (Rows Value.string w (.slice ao nr c) m)) (hl0 : ((ps.length : Int) == 0) = true)
    (H0 : Hid (∀ W, Ext w W → Calls Tryz.prog 9 #[] W fun e w' => e = .returned (.bool true) ∧ Ext W w'))
    (H1 : Hid (∀ W, Ext w W → Calls Tryz.prog 10 #[.slice ao nr c] W fun e w' => ∃ n, e = .returned (.int .i64 n) ∧ Ext W w'))
    (H2 : Hid (∀ W, Ext w W → Calls Tryz.prog 18 #[.slice ao nr c, .slice bo ps.length d] W fun e w' => e = .returned (.tuple #[.slice none 0 0, .slice none 0 0, .int .i64 8]) ∧ Ext W w'))
    (H3 : Hid (∀ W, Ext w W → Calls Tryz.prog 19 #[.slice ao nr c, .slice bo ps.length d] W fun e w' => e = .returned (.tuple #[.string ⟨#[]⟩, .string ⟨#[]⟩, .int .i64 8]) ∧ Ext W w'))
    (H4 : Hid (∀ W, Ext w W → Calls Tryz.prog 20 #[.slice ao nr c, .slice bo ps.length d] W fun e w' => e = .returned (.int .i64 0) ∧ Ext W w')) :
    Calls Tryz.prog 4 #[.slice ao nr c, .slice bo ps.length d] w fun e w' => e = .returned (.bool true) ∧ Ext w w' := by
  obtain ⟨bl, hbl⟩ : ∃ bl, w.heap.size = bl := ⟨_, rfl⟩
  obtain ⟨W0, hW0⟩ : ∃ W0, w.alloc (.cells #[.slice bo ps.length d] 26) = W0 := ⟨_, rfl⟩
  have E0 : Ext w W0 := by rw [← hW0]; exact (Ext.refl w).alloc _
  have k0 : W0.cell? ⟨bl, 0, none⟩ = some (.slice bo ps.length d) := by rw [← hW0, ← hbl]; simp [go_sem]
  go_enter Tryz.func4, Tryz.ntmps4
  go_wp2_with fail
  clear hW0 hbl
  refine (H0.out _ E0).mono ?_
  rintro e w1 ⟨rfl, X1⟩
  have E1 := E0.trans X1
  have k1 := X1.cell k0
  clear E0 X1 k0
  go_wp2_with fail
  refine (H1.out _ E1).mono ?_
  rintro e w2 ⟨n1, rfl, X2⟩
  have E2 := E1.trans X2
  have k2 := X2.cell k1
  clear E1 X2 k1
  by_cases hn : (6000 : Int) < n1
  · go_wp2_with fail
    go_ret
    exact ⟨rfl, E2⟩
  go_wp2_with fail
  refine (H2.out _ E2).mono ?_
  rintro e w3 ⟨rfl, X3⟩
  have E3 := E2.trans X3
  have k3 := X3.cell k2
  clear E2 X3 k2
  go_wp2_with fail
  refine (H3.out _ E3).mono ?_
  rintro e w4 ⟨rfl, X4⟩
  have E4 := E3.trans X4
  have k4 := X4.cell k3
  clear E3 X4 k3
  go_wp2_with fail
  refine (H4.out _ E4).mono ?_
  rintro e w5 ⟨rfl, X5⟩
  have E5 := E4.trans X5
  have k5 := X5.cell k4
  clear E4 X5 k4
  go_wp2_with fail
  go_ret
  exact ⟨by first | rfl | simp, E5⟩

set_option maxHeartbeats 3200000 in
set_option maxRecDepth 100000 in
theorem avgs_vast (ao : Option Addr) (bo : Option Addr) (c d nr : Nat) (m : List (List ByteArray)) (ps : List (Int × Int)) (w : World) (HV : Hid (Rows Value.string w (.slice ao nr c) m)) (hl0 : ((ps.length : Int) == 0) = false) (qs rs : List Rat)
    (H0 : Hid (∀ W, Ext w W → Calls Tryz.prog 9 #[] W fun e w' => e = .returned (.bool true) ∧ Ext W w'))
    (H1 : Hid (∀ W, Ext w W → Calls Tryz.prog 10 #[.slice ao nr c] W fun e w' => ∃ n, e = .returned (.int .i64 n) ∧ Ext W w'))
    (H2 : Hid (∀ W, Ext w W → Calls Tryz.prog 18 #[.slice ao nr c, .slice bo ps.length d] W (BothPost qs rs W)))
    (H3 : Hid (∀ W, Ext w W → Calls Tryz.prog 19 #[.slice ao nr c, .slice bo ps.length d] W fun e w' => ∃ s1 s2 z, e = .returned (.tuple #[.string s1, .string s2, .int .i64 z]) ∧ Ext W w'))
    (H4 : Hid (∀ W, Ext w W → Calls Tryz.prog 20 #[.slice ao nr c, .slice bo ps.length d] W fun e w' => e = .returned (.int .i64 0) ∧ Ext W w'))
    (H5 : Hid (∀ v W, MatsV W v [m] → Calls Tryz.prog 13 #[.int .i64 5, v] W fun e w' => e = .returned (.bool true) ∧ Ext W w')) :
    Calls Tryz.prog 4 #[.slice ao nr c, .slice bo ps.length d] w fun e w' => e = .returned (.bool true) ∧ Ext w w' := by
  obtain ⟨bl, hbl⟩ : ∃ bl, w.heap.size = bl := ⟨_, rfl⟩
  obtain ⟨W0, hW0⟩ : ∃ W0, w.alloc (.cells #[.slice bo ps.length d] 26) = W0 := ⟨_, rfl⟩
  have E0 : Ext w W0 := by rw [← hW0]; exact (Ext.refl w).alloc _
  have k0 : W0.cell? ⟨bl, 0, none⟩ = some (.slice bo ps.length d) := by rw [← hW0, ← hbl]; simp [go_sem]
  go_enter Tryz.func4, Tryz.ntmps4
  go_wp2_with fail
  clear hW0 hbl
  refine (H0.out _ E0).mono ?_
  rintro e w1 ⟨rfl, X1⟩
  have E1 := E0.trans X1
  have k1 := X1.cell k0
  clear E0 X1 k0
  go_wp2_with fail
  refine (H1.out _ E1).mono ?_
  rintro e w2 ⟨n1, rfl, X2⟩
  have E2 := E1.trans X2
  have k2 := X2.cell k1
  clear E1 X2 k1
  by_cases hn : (6000 : Int) < n1
  · go_wp2_with fail
    go_ret
    exact ⟨rfl, E2⟩
  go_wp2_with fail
  refine (H2.out _ E2).mono ?_
  intro e w3 h3
  unfold BothPost at h3
  obtain ⟨X3, h3⟩ := h3
  have E3 := E2.trans X3
  have k3 := X3.cell k2
  clear E2 X3 k2
  rcases h3 with ⟨os, os2, u1, u2, _, _, rfl, hst1, hst2⟩ | ⟨_, rfl⟩
  · obtain ⟨ao1, c1, rfl, _, _⟩ := hst1.open
    obtain ⟨ao2, c2, rfl, _, _⟩ := hst2.open
    clear hst1 hst2
    go_wp2_with fail
    refine (H3.out _ E3).mono ?_
    rintro e w4 ⟨s1, s2, z, rfl, X4⟩
    have E4 := E3.trans X4
    have k4 := X4.cell k3
    clear E3 X4 k3
    go_wp2_with fail
    refine (H4.out _ E4).mono ?_
    rintro e w5 ⟨rfl, X5⟩
    have E5 := E4.trans X5
    have k5 := X5.cell k4
    clear E4 X5 k4
    go_wp2_with fail
    refine (H5.out _ _ (by exact lit_mats1 _ _ (HV.out.ext E5) _ (by first | rfl | simp))).mono ?_
    rintro e w6 ⟨rfl, X6⟩
    have X56 : Ext w5 w6 := Ext.trans (by repeat' (first | with_reducible exact Ext.refl _ | with_reducible apply Ext.alloc)) X6
    have E6 := E5.trans X56
    have k6 := X56.cell k5
    go_wp2_with fail
    go_ret
    exact ⟨by first | rfl | simp, E6⟩
  · go_wp2_with fail
    refine (H3.out _ E3).mono ?_
    rintro e w4 ⟨s1, s2, z, rfl, X4⟩
    have E4 := E3.trans X4
    have k4 := X4.cell k3
    clear E3 X4 k3
    go_wp2_with fail
    refine (H4.out _ E4).mono ?_
    rintro e w5 ⟨rfl, X5⟩
    have E5 := E4.trans X5
    have k5 := X5.cell k4
    clear E4 X5 k4
    go_wp2_with fail
    refine (H5.out _ _ (by exact lit_mats1 _ _ (HV.out.ext E5) _ (by first | rfl | simp))).mono ?_
    rintro e w6 ⟨rfl, X6⟩
    have X56 : Ext w5 w6 := Ext.trans (by repeat' (first | with_reducible exact Ext.refl _ | with_reducible apply Ext.alloc)) X6
    have E6 := E5.trans X56
    have k6 := X56.cell k5
    go_wp2_with fail
    go_ret
    exact ⟨by first | rfl | simp, E6⟩

set_option maxHeartbeats 3200000 in
set_option maxRecDepth 100000 in
theorem avgs_long (ao : Option Addr) (bo : Option Addr) (c d nr : Nat) (m : List (List ByteArray)) (ps : List (Int × Int)) (w : World) (HV : Hid (Rows Value.string w (.slice ao nr c) m)) (hl0 : ((ps.length : Int) == 0) = false) (hli : (30 : Int) < (ps.length : Int)) (qs rs : List Rat)
    (H0 : Hid (∀ W, Ext w W → Calls Tryz.prog 9 #[] W fun e w' => e = .returned (.bool true) ∧ Ext W w'))
    (H1 : Hid (∀ W, Ext w W → Calls Tryz.prog 10 #[.slice ao nr c] W fun e w' => ∃ n, e = .returned (.int .i64 n) ∧ Ext W w'))
    (H2 : Hid (∀ W, Ext w W → Calls Tryz.prog 18 #[.slice ao nr c, .slice bo ps.length d] W (BothPost qs rs W)))
    (H3 : Hid (∀ W, Ext w W → Calls Tryz.prog 19 #[.slice ao nr c, .slice bo ps.length d] W fun e w' => ∃ s1 s2 z, e = .returned (.tuple #[.string s1, .string s2, .int .i64 z]) ∧ Ext W w'))
    (H4 : Hid (∀ W, Ext w W → Calls Tryz.prog 20 #[.slice ao nr c, .slice bo ps.length d] W fun e w' => e = .returned (.int .i64 0) ∧ Ext W w'))
    (H5 : Hid (∀ v W, MatsV W v [m] → Calls Tryz.prog 13 #[.int .i64 5, v] W fun e w' => e = .returned (.bool false) ∧ Ext W w')) :
    Calls Tryz.prog 4 #[.slice ao nr c, .slice bo ps.length d] w fun e w' => e = .returned (.bool true) ∧ Ext w w' := by
  obtain ⟨bl, hbl⟩ : ∃ bl, w.heap.size = bl := ⟨_, rfl⟩
  obtain ⟨W0, hW0⟩ : ∃ W0, w.alloc (.cells #[.slice bo ps.length d] 26) = W0 := ⟨_, rfl⟩
  have E0 : Ext w W0 := by rw [← hW0]; exact (Ext.refl w).alloc _
  have k0 : W0.cell? ⟨bl, 0, none⟩ = some (.slice bo ps.length d) := by rw [← hW0, ← hbl]; simp [go_sem]
  go_enter Tryz.func4, Tryz.ntmps4
  go_wp2_with fail
  clear hW0 hbl
  refine (H0.out _ E0).mono ?_
  rintro e w1 ⟨rfl, X1⟩
  have E1 := E0.trans X1
  have k1 := X1.cell k0
  clear E0 X1 k0
  go_wp2_with fail
  refine (H1.out _ E1).mono ?_
  rintro e w2 ⟨n1, rfl, X2⟩
  have E2 := E1.trans X2
  have k2 := X2.cell k1
  clear E1 X2 k1
  by_cases hn : (6000 : Int) < n1
  · go_wp2_with fail
    go_ret
    exact ⟨rfl, E2⟩
  go_wp2_with fail
  refine (H2.out _ E2).mono ?_
  intro e w3 h3
  unfold BothPost at h3
  obtain ⟨X3, h3⟩ := h3
  have E3 := E2.trans X3
  have k3 := X3.cell k2
  clear E2 X3 k2
  rcases h3 with ⟨os, os2, u1, u2, _, _, rfl, hst1, hst2⟩ | ⟨_, rfl⟩
  · obtain ⟨ao1, c1, rfl, _, _⟩ := hst1.open
    obtain ⟨ao2, c2, rfl, _, _⟩ := hst2.open
    clear hst1 hst2
    go_wp2_with fail
    refine (H3.out _ E3).mono ?_
    rintro e w4 ⟨s1, s2, z, rfl, X4⟩
    have E4 := E3.trans X4
    have k4 := X4.cell k3
    clear E3 X4 k3
    go_wp2_with fail
    refine (H4.out _ E4).mono ?_
    rintro e w5 ⟨rfl, X5⟩
    have E5 := E4.trans X5
    have k5 := X5.cell k4
    clear E4 X5 k4
    go_wp2_with fail
    refine (H5.out _ _ (by exact lit_mats1 _ _ (HV.out.ext E5) _ (by first | rfl | simp))).mono ?_
    rintro e w6 ⟨rfl, X6⟩
    have X56 : Ext w5 w6 := Ext.trans (by repeat' (first | with_reducible exact Ext.refl _ | with_reducible apply Ext.alloc)) X6
    have E6 := E5.trans X56
    have k6 := X56.cell k5
    go_wp2_with fail
    go_ret
    exact ⟨by first | rfl | simp, E6⟩
  · go_wp2_with fail
    refine (H3.out _ E3).mono ?_
    rintro e w4 ⟨s1, s2, z, rfl, X4⟩
    have E4 := E3.trans X4
    have k4 := X4.cell k3
    clear E3 X4 k3
    go_wp2_with fail
    refine (H4.out _ E4).mono ?_
    rintro e w5 ⟨rfl, X5⟩
    have E5 := E4.trans X5
    have k5 := X5.cell k4
    clear E4 X5 k4
    go_wp2_with fail
    refine (H5.out _ _ (by exact lit_mats1 _ _ (HV.out.ext E5) _ (by first | rfl | simp))).mono ?_
    rintro e w6 ⟨rfl, X6⟩
    have X56 : Ext w5 w6 := Ext.trans (by repeat' (first | with_reducible exact Ext.refl _ | with_reducible apply Ext.alloc)) X6
    have E6 := E5.trans X56
    have k6 := X56.cell k5
    go_wp2_with fail
    go_ret
    exact ⟨by first | rfl | simp, E6⟩

set_option maxHeartbeats 12800000 in
set_option maxRecDepth 100000 in
theorem avgs_full (b0 o0 : Nat) (bo : Option Addr) (c d nr : Nat) (m : List (List ByteArray)) (ps : List (Int × Int)) (w : World) (HV : Hid (Rows Value.string w (.slice (some ⟨b0, o0, none⟩) nr c) m)) (hl0 : ((ps.length : Int) == 0) = false) (hli : (ps.length : Int) ≤ 30) (hp0 : 0 < ps.length) (hnr : 0 < nr) (nc c0 : Nat) (a0 : Option Addr) (HC0b : Hid (∀ W, Ext w W → W.cell? ⟨b0, o0, none⟩ = some (.slice a0 nc c0))) (hnc : 0 < nc) (hnri : (0 : Int) < (nr : Int)) (hnr2 : (nr : Int) ≤ 1000) (hnc2 : (nc : Int) ≤ 1000) (os1 os2 : List ByteArray) (RR RC : List Rat) (SR SC : Nat → Rat) (HOL1 : Hid (os1.length = nr)) (HOL2 : Hid (os2.length = nc)) (HBAD : Hid (∀ p ∈ ps, badP nr nc p = false))
    (HROW : Hid (∀ W (i : Nat), Ext w W → i < nr → ∃ ai ci l, W.cell? ⟨b0, o0 + i, none⟩ = some (.slice ai nc ci) ∧ m[i]? = some l ∧ Strs W (.slice ai nc ci) l))
    (HC0 : Hid (∃ a0 c0 l0, m[0]? = some l0 ∧ ∀ W, Ext w W → W.cell? ⟨b0, o0, none⟩ = some (.slice a0 nc c0) ∧ Strs W (.slice a0 nc c0) l0))
    (HOS1 : Hid (∀ (i : Nat) (z : Int), (cntF (·.1) ps nr)[i]? = some z → os1[i]? = some (ratT ((z : Rat) / ((ps.length : Int) : Rat))))) (HOS2 : Hid (∀ (i : Nat) (z : Int), (cntF (·.2) ps nc)[i]? = some z → os2[i]? = some (ratT ((z : Rat) / ((ps.length : Int) : Rat)))))
    (HLR : Hid (RR.length = nr)) (HLC : Hid (RC.length = nc)) (HGR : Hid (∀ i, i < nr → RR[i]? = some (SR i))) (HGC : Hid (∀ i, i < nc → RC[i]? = some (SC i))) (HRR : Hid (∀ i, i < nr → RB 4000 (SR i))) (HRC : Hid (∀ i, i < nc → RB 4000 (SC i)))
    (HDR : Hid (∀ (i : Nat) l u v W, m[i]? = some l → Strs W u l → Strs W v os2 → Calls Tryz.prog 24 #[u, v] W fun e w' => e = .returned (.string (ratT (SR i))) ∧ Ext W w'))
    (HDC : Hid (∀ (k : Nat) u v W, k < nc → Strs W u (tcol m k) → Strs W v os1 → Calls Tryz.prog 24 #[u, v] W fun e w' => e = .returned (.string (ratT (SC k))) ∧ Ext W w'))
    (HCL : Hid (∀ (k : Nat) W, k < nc → Ext w W → Calls Tryz.prog 25 #[.slice (some ⟨b0, o0, none⟩) nr c, .int .i64 (k : Int)] W fun e w' => ∃ u, e = .returned u ∧ Strs w' u (tcol m k) ∧ Ext W w'))
    (HPC : Hid (PCells w bo ps))
    (H0 : Hid (∀ W, Ext w W → Calls Tryz.prog 9 #[] W fun e w' => e = .returned (.bool true) ∧ Ext W w'))
    (H1 : Hid (∀ W, Ext w W → Calls Tryz.prog 10 #[.slice (some ⟨b0, o0, none⟩) nr c] W fun e w' => ∃ n, e = .returned (.int .i64 n) ∧ Ext W w'))
    (H2 : Hid (∀ W, Ext w W → Calls Tryz.prog 18 #[.slice (some ⟨b0, o0, none⟩) nr c, .slice bo ps.length d] W fun e w' => ∃ u1 u2, e = .returned (.tuple #[u1, u2, .int .i64 0]) ∧ Strs w' u1 os1 ∧ Strs w' u2 os2 ∧ Ext W w'))
    (H3 : Hid (∀ W, Ext w W → Calls Tryz.prog 19 #[.slice (some ⟨b0, o0, none⟩) nr c, .slice bo ps.length d] W fun e w' => e = .returned (.tuple #[.string (ratT (SC (bestS (-1) RC RC 0 0))), .string (ratT (SR (bestS 1 RR RR 0 0))), .int .i64 0]) ∧ Ext W w'))
    (H4 : Hid (∀ W, Ext w W → Calls Tryz.prog 20 #[.slice (some ⟨b0, o0, none⟩) nr c, .slice bo ps.length d] W fun e w' => e = .returned (.int .i64 0) ∧ Ext W w'))
    (H5 : Hid (∀ v W, MatsV W v [m] → Calls Tryz.prog 13 #[.int .i64 5, v] W fun e w' => e = .returned (.bool false) ∧ Ext W w')) :
    Calls Tryz.prog 4 #[.slice (some ⟨b0, o0, none⟩) nr c, .slice bo ps.length d] w fun e w' => e = .returned (.bool true) ∧ Ext w w' := by
  obtain ⟨bl, hbl⟩ : ∃ bl, w.heap.size = bl := ⟨_, rfl⟩
  obtain ⟨W0, hW0⟩ : ∃ W0, w.alloc (.cells #[.slice bo ps.length d] 26) = W0 := ⟨_, rfl⟩
  have E0 : Ext w W0 := by rw [← hW0]; exact (Ext.refl w).alloc _
  have k0 : W0.cell? ⟨bl, 0, none⟩ = some (.slice bo ps.length d) := by rw [← hW0, ← hbl]; simp [go_sem]
  go_enter Tryz.func4, Tryz.ntmps4
  go_wp2_with fail
  clear hW0 hbl
  refine (H0.out _ E0).mono ?_
  rintro e w1 ⟨rfl, X1⟩
  have E1 := E0.trans X1
  have k1 := X1.cell k0
  clear E0 X1 k0
  go_wp2_with fail
  refine (H1.out _ E1).mono ?_
  rintro e w2 ⟨n1, rfl, X2⟩
  have E2 := E1.trans X2
  have k2 := X2.cell k1
  clear E1 X2 k1
  by_cases hn : (6000 : Int) < n1
  · go_wp2_with fail
    go_ret
    exact ⟨rfl, E2⟩
  go_wp2_with fail
  refine (H2.out _ E2).mono ?_
  rintro e w3 ⟨u1, u2, rfl, hst1, hst2, X3⟩
  have E3 := E2.trans X3
  have k3 := X3.cell k2
  have HS1 := Lib.hid hst1
  have HS2 := Lib.hid hst2
  obtain ⟨ao1, c1, rfl, _, _⟩ := hst1.open
  obtain ⟨ao2, c2, rfl, _, _⟩ := hst2.open
  rw [HOL1.out] at *
  rw [HOL2.out] at *
  have Y3 := Ext.refl w3
  clear E2 X3 k2 hst1 hst2
  go_wp2_with fail
  refine (H3.out _ E3).mono ?_
  rintro e w4 ⟨rfl, X4⟩
  have E4 := E3.trans X4
  have k4 := X4.cell k3
  have Y4 := Y3.trans X4
  clear E3 X4 k3 Y3
  go_wp2_with fail
  refine (H4.out _ E4).mono ?_
  rintro e w5 ⟨rfl, X5⟩
  have E5 := E4.trans X5
  have k5 := X5.cell k4
  have Y5 := Y4.trans X5
  clear E4 X5 k4 Y4
  go_wp2_with fail
  refine (H5.out _ _ (by exact lit_mats1 _ _ (HV.out.ext E5) _ (by first | rfl | simp))).mono ?_
  rintro e w6 ⟨rfl, X6⟩
  have X56 : Ext w5 w6 := Ext.trans (by repeat' (first | with_reducible exact Ext.refl _ | with_reducible apply Ext.alloc)) X6
  have E6 := E5.trans X56
  have k6 := X56.cell k5
  obtain ⟨wo, rfl⟩ : ∃ wo : World, wo = w6 := ⟨_, rfl⟩
  have E := E6
  have k7 := k6
  have HX1 := Lib.hid (HS1.out.ext (Y5.trans X56))
  have HX2 := Lib.hid (HS2.out.ext (Y5.trans X56))
  obtain ⟨e1o, e1c, e1e, _, hx1c⟩ := HX1.out.open
  obtain ⟨e2o, e2c, e2e, _, hx2c⟩ := HX2.out.open
  simp only [Value.slice.injEq] at e1e e2e
  obtain ⟨rfl, h91, rfl⟩ := e1e
  obtain ⟨rfl, h92, rfl⟩ := e2e
  clear h91 h92
  have HO1 : Hid (∀ W (i : Nat) (s : ByteArray), Ext wo W → os1[i]? = some s → ∃ b o, ao1 = some ⟨b, o, none⟩ ∧ W.cell? ⟨b, o + i, none⟩ = some (.string s)) := fun W i s hx hs => hx1c.ext hx i _ (by rw [List.getElem?_map, hs]; rfl)
  have HO2 : Hid (∀ W (i : Nat) (s : ByteArray), Ext wo W → os2[i]? = some s → ∃ b o, ao2 = some ⟨b, o, none⟩ ∧ W.cell? ⟨b, o + i, none⟩ = some (.string s)) := fun W i s hx hs => hx2c.ext hx i _ (by rw [List.getElem?_map, hs]; rfl)
  obtain ⟨FA, hFA⟩ : ∃ FA, bestS 1 RR RR 0 0 = FA := ⟨_, rfl⟩
  obtain ⟨FB, hFB⟩ : ∃ FB, bestS (-1) RC RC 0 0 = FB := ⟨_, rfl⟩
  rw [hFA, hFB]
  have HFA := Lib.hid hFA
  have HFB := Lib.hid hFB
  have HCMP := Lib.hid (fun (a b : Rat) W (ha : RB 4000 a) (hb : RB 4000 b) => by have := rCmp_any (by omega) ha hb W; rwa [cmpQ_sub] at this)
  have hc1 : wo.cell? ⟨b0, o0, none⟩ = some (.slice a0 nc c0) := (HC0b.out _ E6)
  have HB := HBAD
  have HPCW := Lib.hid (HPC.out.ext E6)
  clear HS1 HS2 Y5 X56 X6 E5 k5 k6 HV H0 H1 H2 H3 H4 H5 hx1c hx2c hFA hFB
  go_upto_region 17 with fail
  go_cut [13, 14] (fun s6 s7 wx => ∃ ga gb, s6 = .slice (some ⟨ga, 0, none⟩) nr nr ∧ s7 = .slice (some ⟨gb, 0, none⟩) nc nc ∧ wo.heap.size ≤ ga ∧ wo.heap.size ≤ gb ∧ ga ≠ gb ∧ Ext wo wx ∧
    wx.ownsRow wo.heap.size 3 1 (.slice (some ⟨ga, 0, none⟩) nr nr) nr (List.replicate nr (.int .i64 0)) ∧ wx.ownsRow wo.heap.size 3 1 (.slice (some ⟨gb, 0, none⟩) nc nc) nc (List.replicate nc (.int .i64 0)))
  case first =>
    have hmk1 := fun W => run_make_row' (P := Tryz.prog) 45 3 (.int .i64 0) 8 Tryz.underlying45 info_i64c rfl .i64 .i64 nr (by omega) (by omega) W
    have hmk2 := fun W => run_make_row' (P := Tryz.prog) 45 3 (.int .i64 0) 8 Tryz.underlying45 info_i64c rfl .i64 .i64 nc (by omega) (by omega) W
    have hc2 := ((Ext.refl wo).alloc (.cells (madeCells #[.int .i64 0] nr) 3)).cell hc1
    go_region
    all_goals
      go_wp2_with fail
      go_meet
      first
        | exact ⟨wo.heap.size, wo.heap.size + 1, rfl, rfl, Nat.le_refl _, by omega, by omega, (((Ext.refl wo).alloc _).alloc _).drew, own_ext (own_mk wo wo (.int .i64 0) 3 nr (by omega) (Nat.le_refl _)) ((((Ext.refl _).alloc _)).drew),
            by have := own_mk wo (wo.alloc (.cells (madeCells #[.int .i64 0] nr) 3)) (.int .i64 0) 3 nc (by omega) (by simp); simp only [World.size_alloc] at this; exact own_ext this (Ext.refl _).drew⟩
        | exact ⟨wo.heap.size + 1, wo.heap.size, rfl, rfl, by omega, Nat.le_refl _, by omega, (((Ext.refl wo).alloc _).alloc _).drew,
            by have := own_mk wo (wo.alloc (.cells (madeCells #[.int .i64 0] nc) 3)) (.int .i64 0) 3 nr (by omega) (by simp); simp only [World.size_alloc] at this; exact own_ext this (Ext.refl _).drew,
            own_ext (own_mk wo wo (.int .i64 0) 3 nc (by omega) (Nat.le_refl _)) ((((Ext.refl _).alloc _)).drew)⟩
  case rest =>
    obtain ⟨ga, gb, rfl, rfl, hga, hgb, hgg, hxw, hO1, hO2⟩ := hcut
    have k8 := hxw.cell k7
    go_wp2_with fail
    go_loopw [124] (fun iv wr => ∃ (i : Nat), i ≤ ps.length ∧ iv = .int .i64 i ∧ Ext wo wr ∧
      Hid (wr.ownsRow wo.heap.size 3 1 (.slice (some ⟨ga, 0, none⟩) nr nr) nr ((cntF (·.1) (ps.take i) nr).map (Value.int .i64))) ∧ Hid (wr.ownsRow wo.heap.size 3 1 (.slice (some ⟨gb, 0, none⟩) nc nc) nc ((cntF (·.2) (ps.take i) nc).map (Value.int .i64)))) (fun iv _ => ps.length - (intOf iv).toNat)
    case atStart => exact ⟨0, Nat.zero_le _, rfl, hxw, by show World.ownsRow _ _ _ _ _ _ _; rw [List.take_zero]; unfold cntF; rw [List.foldl_nil, List.map_replicate]; exact hO1, by show World.ownsRow _ _ _ _ _ _ _; rw [List.take_zero]; unfold cntF; rw [List.foldl_nil, List.map_replicate]; exact hO2⟩
    case round =>
      obtain ⟨i, hi, rfl, X, HA, HD⟩ := hrel
      by_cases hlt : i < ps.length
      · obtain ⟨p, d1, d2, d3⟩ := get_lt hlt
        obtain ⟨b2, off2, rfl, q0, q1⟩ := HPCW.out.ext X i p d1.out
        have hbp := HB.out p (List.mem_of_getElem? d1.out)
        obtain ⟨x0, y0⟩ := p
        unfold badP at hbp
        rw [decide_eq_false_iff_not] at hbp
        dsimp only at q0 q1 hbp
        obtain ⟨x, rfl⟩ : ∃ x : Nat, x0 = (x : Int) := ⟨x0.toNat, by omega⟩
        obtain ⟨y, rfl⟩ : ∃ y : Nat, y0 = (y : Int) := ⟨y0.toNat, by omega⟩
        have hxn : x < nr := by omega
        have hyk : y < nc := by omega
        have hxi : (x : Int) < (nr : Int) := by omega
        have hyi : (y : Int) < (nc : Int) := by omega
        have hki : (i : Int) < (ps.length : Int) := by omega
        have HE1 : Hid (cntF (·.1) (ps.take (i + 1)) nr = cntUp (cntF (·.1) (ps.take i) nr) x) := by show _ = _; rw [d3.out, cntF_app]; rfl
        have HE2 : Hid (cntF (·.2) (ps.take (i + 1)) nc = cntUp (cntF (·.2) (ps.take i) nc) y) := by show _ = _; rw [d3.out, cntF_app]; rfl
        have hl1 := cntF_len (·.1) (ps.take i) nr
        have hl2 := cntF_len (·.2) (ps.take i) nc
        have hb1 := cntF_le (·.1) (ps.take i) nr
        have hb2 := cntF_le (·.2) (ps.take i) nc
        have htl : (ps.take i).length ≤ 200 := by rw [List.length_take]; omega
        generalize cntF (·.1) (ps.take i) nr = xs at *
        generalize cntF (·.2) (ps.take i) nc = ys at *
        obtain ⟨z1, g1, _, _⟩ := get_lt (xs := xs) (k := x) (by omega)
        obtain ⟨z2, g2, _, _⟩ := get_lt (xs := ys) (k := y) (by omega)
        have zb1 := hb1 z1 (List.mem_of_getElem? g1.out)
        have zb2 := hb2 z2 (List.mem_of_getElem? g2.out)
        have hz1 : -1 ≤ z1 := by omega
        have hz1b : z1 ≤ 200 := by omega
        have hz2 : -1 ≤ z2 := by omega
        have hz2b : z2 ≤ 200 := by omega
        have hgaw : ga < wr.heap.size := (HA.out.lt ga rfl).2
        have hgbw : gb < wr.heap.size := (HD.out.lt gb rfl).2
        obtain ⟨T7, hT7⟩ : ∃ T7, wr.heap.size = T7 := ⟨_, rfl⟩
        obtain ⟨W1, hW1⟩ : ∃ W1, wr.alloc (.cells #[.int .i64 (x : Int), .int .i64 (y : Int)] 32) = W1 := ⟨_, rfl⟩
        have X1 : Ext wr W1 := by rw [← hW1]; exact (Ext.refl wr).alloc _
        have j1 : W1.cell? ⟨T7, 0, none⟩ = some (.int .i64 (x : Int)) := by rw [← hW1, ← hT7]; simp [go_sem]
        have j2 : W1.cell? ⟨T7, 1, none⟩ = some (.int .i64 (y : Int)) := by rw [← hW1, ← hT7]; simp [go_sem]
        have hA := own_ext HA.out X1
        rw [hT7] at hgaw hgbw
        have a0 := own_cell hA (j := x) (x := .int .i64 z1) (by show _ = _; rw [List.getElem?_map, g1.out]; rfl)
        have af := hA.frozenAt x
        have sA := hA.stored x (.int .i64 (z1 + 1))
        have hB2 := (own_ext HD.out X1).kept sA.2 (.inr (by simp [Value.ownBlock]; omega))
        have b0 := own_cell hB2 (j := y) (x := .int .i64 z2) (by show _ = _; rw [List.getElem?_map, g2.out]; rfl)
        have bf := hB2.frozenAt y
        have kk2 := sA.2.cell j2 (fun e => by simp at e; omega)
        have sB := hB2.stored y (.int .i64 (z2 + 1))
        have hA3 := Lib.hid (sA.1.kept sB.2 (.inr (by simp [Value.ownBlock]; omega)))
        have hB3 := Lib.hid sB.1
        have XR := Lib.hid (((X.trans X1).grown sA.2 hga).grown sB.2 hgb)
        have HF1 : Hid (((xs.map (Value.int .i64)).set x (.int .i64 (z1 + 1))) = (cntF (·.1) (ps.take (i + 1)) nr).map (Value.int .i64)) := by
          show _ = _
          rw [HE1.out, cntUp, List.getD_eq_getElem?_getD, g1.out, List.map_set]
          rfl
        have HF2 : Hid (((ys.map (Value.int .i64)).set y (.int .i64 (z2 + 1))) = (cntF (·.2) (ps.take (i + 1)) nc).map (Value.int .i64)) := by
          show _ = _
          rw [HE2.out, cntUp, List.getD_eq_getElem?_getD, g2.out, List.map_set]
          rfl
        clear hb1 hb2 hbp hl1 hl2 htl hlt sA sB hA hB2 zb1 zb2 X1 hO1 hO2
        go_wp2_with fail
        go_roundw
        case rel => exact ⟨i + 1, by omega, by go_num, XR.out, by show World.ownsRow _ _ _ _ _ _ _; rw [← HF1.out]; exact hA3.out, by show World.ownsRow _ _ _ _ _ _ _; rw [← HF2.out]; exact hB3.out⟩
        case measure => simp [intOf] <;> omega
      · have hil : ps.length = i := by omega
        have hmm : ps.take i = ps := by rw [← hil]; exact List.take_length
        have HA1 := HA.out
        have HD1 := HD.out
        rw [hmm] at HA1 HD1
        obtain ⟨w7, rfl⟩ : ∃ w7 : World, w7 = wr := ⟨_, rfl⟩
        have HA7 := Lib.hid HA1
        have HB7 := Lib.hid HD1
        have E := E.trans X
        have k7 := X.cell k7
        have HX1 := Lib.hid (HX1.out.ext X)
        have HX2 := Lib.hid (HX2.out.ext X)
        have HO1 : Hid (∀ W (i : Nat) (s : ByteArray), Ext w7 W → os1[i]? = some s → ∃ b o, ao1 = some ⟨b, o, none⟩ ∧ W.cell? ⟨b, o + i, none⟩ = some (.string s)) := fun W i s hx => HO1.out W i s (X.trans hx)
        have HO2 : Hid (∀ W (i : Nat) (s : ByteArray), Ext w7 W → os2[i]? = some s → ∃ b o, ao2 = some ⟨b, o, none⟩ ∧ W.cell? ⟨b, o + i, none⟩ = some (.string s)) := fun W i s hx => HO2.out W i s (X.trans hx)
        have XL := Ext.refl w7
        have hge : (ps.length : Int) ≤ (i : Int) := by omega
        clear hmm HA1 HD1 HA HD hO1 hO2 hil hi HPC HPCW
        go_wp2_with fail
        go_loopw [145] (fun iv wr => ∃ (i : Nat), i ≤ nr ∧ iv = .int .i64 i ∧ Ext w7 wr) (fun iv _ => nr - (intOf iv).toNat)
        case atStart => exact ⟨0, Nat.zero_le _, rfl, XL⟩
        case round =>
          clear XL
          obtain ⟨i, hi, rfl, Y⟩ := hrel
          by_cases hlt : i < nr
          · have hki : (i : Int) < (nr : Int) := by omega
            obtain ⟨z, d1, _, _⟩ := get_lt (xs := cntF (·.1) ps nr) (k := i) (by rw [cntF_len]; exact hlt)
            have hzb := cntF_le _ _ _ z (List.mem_of_getElem? d1.out)
            have ho := HOS1.out i z d1.out
            obtain ⟨k, rfl⟩ : ∃ k : Nat, z = (k : Int) := ⟨z.toNat, by omega⟩
            obtain ⟨bq, oq, rfl, hq⟩ := HO1.out wr i _ Y ho
            obtain ⟨hgc, hgr⟩ : wr.cell? ⟨ga, i, none⟩ = some (.int .i64 (k : Int)) ∧ True := ⟨by
              have := own_cell (own_ext HA7.out Y) (j := i) (x := .int .i64 (k : Int)) (by show _ = _; rw [List.getElem?_map, d1.out]; rfl)
              exact this, trivial⟩
            have kk := Y.cell k7
            have HPT := Lib.hid (fun W (hx : Ext wr W) => part_any bl k ps.length d bo W (hx.cell kk) (by omega) (by omega) hp0)
            have hbe : ((ratT (((k : Int) : Rat) / ((ps.length : Int) : Rat))).toList != (ratT (((k : Int) : Rat) / ((ps.length : Int) : Rat))).toList) = false := by simp
            generalize ratT (((k : Int) : Rat) / ((ps.length : Int) : Rat)) = TX at *
            have hk0 : (0 : Int) ≤ (k : Int) := by omega
            clear d1 hzb ho hgr
            go_wp2_with fail
            go_region_held3 (fun w' => w'.cell? ⟨bq, oq + i, none⟩ = some (.string TX))
              (first | exact hq | exact Xa.cell hq | go_keep)
              (first
                | (go_at_call 21; refine (HPT.out _ (by exact (Ext.refl _).drew)).mono ?_; rintro e wa ⟨rfl, Ya⟩; have Xa : Ext wr wa := (Ext.refl wr).drew.trans Ya))
            all_goals
              have XN := Y.trans Xa
              clear hq kk
              go_wp2_with fail
              go_roundw
              case rel => exact ⟨i + 1, by omega, by go_num, XN⟩
              case measure => simp [intOf] <;> omega
          · have XL := Y
            clear Y hi
            go_wp2_with fail
            go_loopw [161] (fun iv wr => ∃ (i : Nat), i ≤ nc ∧ iv = .int .i64 i ∧ Ext w7 wr) (fun iv _ => nc - (intOf iv).toNat)
            case atStart => exact ⟨0, Nat.zero_le _, rfl, XL⟩
            case round =>
              clear XL
              obtain ⟨i, hi, rfl, Y⟩ := hrel
              by_cases hlt : i < nc
              · have hki : (i : Int) < (nc : Int) := by omega
                obtain ⟨z, d1, _, _⟩ := get_lt (xs := cntF (·.2) ps nc) (k := i) (by rw [cntF_len]; exact hlt)
                have hzb := cntF_le _ _ _ z (List.mem_of_getElem? d1.out)
                have ho := HOS2.out i z d1.out
                obtain ⟨k, rfl⟩ : ∃ k : Nat, z = (k : Int) := ⟨z.toNat, by omega⟩
                obtain ⟨bq, oq, rfl, hq⟩ := HO2.out wr i _ Y ho
                obtain ⟨hgc, hgr⟩ : wr.cell? ⟨gb, i, none⟩ = some (.int .i64 (k : Int)) ∧ True := ⟨by
                  have := own_cell (own_ext HB7.out Y) (j := i) (x := .int .i64 (k : Int)) (by show _ = _; rw [List.getElem?_map, d1.out]; rfl)
                  exact this, trivial⟩
                have kk := Y.cell k7
                have HPT := Lib.hid (fun W (hx : Ext wr W) => part_any bl k ps.length d bo W (hx.cell kk) (by omega) (by omega) hp0)
                have hbe : ((ratT (((k : Int) : Rat) / ((ps.length : Int) : Rat))).toList != (ratT (((k : Int) : Rat) / ((ps.length : Int) : Rat))).toList) = false := by simp
                generalize ratT (((k : Int) : Rat) / ((ps.length : Int) : Rat)) = TX at *
                have hk0 : (0 : Int) ≤ (k : Int) := by omega
                clear d1 hzb ho hgr
                go_wp2_with fail
                go_region_held3 (fun w' => w'.cell? ⟨bq, oq + i, none⟩ = some (.string TX))
                  (first | exact hq | exact Xa.cell hq | go_keep)
                  (first
                    | (go_at_call 21; refine (HPT.out _ (by exact (Ext.refl _).drew)).mono ?_; rintro e wa ⟨rfl, Ya⟩; have Xa : Ext wr wa := (Ext.refl wr).drew.trans Ya))
                all_goals
                  have XN := Y.trans Xa
                  clear hq kk
                  go_wp2_with fail
                  go_roundw
                  case rel => exact ⟨i + 1, by omega, by go_num, XN⟩
                  case measure => simp [intOf] <;> omega
              · have XL := Y
                clear Y hi
                go_wp2_with fail
                have HCI := Lib.hid (fun W (hx : Ext wr W) => HCL.out 0 W hnc (E.trans (XL.trans hx)))
                have HDI := Lib.hid (fun u W (hx : Ext wr W) hu => HDC.out 0 u _ W hnc hu (HX1.out.ext (XL.trans hx)))
                obtain ⟨a0, c0, l0, hm0, h0⟩ := HC0.out
                have hr0 := (h0 wr (E.trans XL)).1
                have HDJ := Lib.hid (fun W (hx : Ext wr W) => HDR.out 0 l0 _ _ W hm0 (h0 W (E.trans (XL.trans hx))).2 (HX2.out.ext (XL.trans hx)))
                clear h0
                go_region_held3 (fun w' => w'.cell? ⟨b0, o0, none⟩ = some (.slice a0 nc c0))
                  (first | exact hr0 | exact Xa.cell hr0 | exact Xb.cell hr0 | exact Xc.cell hr0 | go_keep)
                  (first
                    | (go_at_call 25; refine (HCI.out _ (by exact (Ext.refl _).drew)).mono ?_; rintro e wa ⟨uc, rfl, huc, Ya⟩; have Xa : Ext wr wa := (Ext.refl wr).drew.trans Ya; have HUC := Lib.hid huc)
                    | (go_at_call_of 24 uc; refine (HDI.out uc _ (by exact Xa) (by exact HUC.out)).mono ?_; rintro e wb ⟨rfl, Yb⟩; have Xb : Ext wr wb := Xa.trans Yb)
                    | (go_at_call_of 24 (Value.slice a0 nc c0); refine (HDJ.out _ (by exact Xb)).mono ?_; rintro e wc ⟨rfl, Yc⟩; have Xc : Ext wr wc := Xb.trans Yc))
                all_goals
                  obtain ⟨wq, rfl⟩ : ∃ wq : World, wq = wc := ⟨_, rfl⟩
                  have XL := XL.trans Xc
                  clear hr0 HUC huc HCI HDI HDJ Xa Xb Xc
                  go_wp2_with fail
                  go_loopw [21, 188] (fun lv iv wr => ∃ (i b : Nat), i ≤ nc ∧ b < nc ∧ iv = .int .i64 i ∧ lv = .string (ratT (SC b)) ∧ Ext w7 wr ∧ Hid (bestS (-1) RC (RC.drop i) i b = FB)) (fun _ iv _ => nc - (intOf iv).toNat)
                  case atStart => exact ⟨0, 0, Nat.zero_le _, hnc, rfl, rfl, XL, by show _ = _; rw [List.drop_zero]; exact HFB.out⟩
                  case round =>
                    obtain ⟨i, b, hi, hb, rfl, rfl, Y, HI⟩ := hrel
                    by_cases hlt : i < nc
                    · have hki : (i : Int) < (nc : Int) := by omega
                      have g1 := HGC.out i hlt
                      have g2 := HGC.out b hb
                      obtain ⟨q1, d1, d2, _⟩ := get_lt (xs := RC) (k := i) (by rw [HLC.out]; exact hlt)
                      have e1 : SC i = q1 := by rw [d1.out] at g1; exact (Option.some.inj g1).symm
                      have e2 : RC.getD b 0 = SC b := by rw [List.getD_eq_getElem?_getD, g2]; rfl
                      have hi2 := HI.out
                      rw [d2.out, bestS, e2, ← e1] at hi2
                      have HCM := Lib.hid (fun W => HCMP.out (SC i) (SC b) W (HRC.out i hlt) (HRC.out b hb))
                      have hk9 := Y.cell k7
                      have HCI := Lib.hid (fun W (hx : Ext wr W) => HCL.out i W hlt (E.trans (Y.trans hx)))
                      have HDI := Lib.hid (fun u W (hx : Ext wr W) hu => HDC.out i u _ W hlt hu (HX1.out.ext (Y.trans hx)))
                      clear d1 d2 g1 g2 e1 e2 HI
                      go_wp2_with fail
                      refine (HCI.out _ (Ext.refl _)).mono ?_
                      rintro e w8 ⟨uc, rfl, huc, Y8⟩
                      have HUC := Lib.hid huc
                      clear huc
                      go_wp2_with fail
                      refine (HDI.out _ _ Y8 HUC.out).mono ?_
                      rintro e w9 ⟨rfl, Y9⟩
                      have YD := Y8.trans Y9
                      go_wp2_with fail
                      refine (HCM.out _).mono ?_
                      rintro e w10 ⟨rfl, Y10⟩
                      have Z := (Y.trans YD).trans Y10
                      by_cases hc : 0 < cmpQ (SC i) (SC b) * (-1)
                      · rw [if_pos hc] at hi2
                        have HI2 := Lib.hid hi2
                        have hcc : cmpQ (SC i) (SC b) < 0 := by omega
                        clear hc hi2
                        go_wp2_with fail
                        go_roundw
                        case rel => exact ⟨i + 1, i, by omega, hlt, by go_num, rfl, Z, HI2⟩
                        case measure => simp [intOf] <;> omega
                      · rw [if_neg hc] at hi2
                        have HI2 := Lib.hid hi2
                        have hcc : 0 ≤ cmpQ (SC i) (SC b) := by omega
                        clear hc hi2
                        go_wp2_with fail
                        go_roundw
                        case rel => exact ⟨i + 1, b, by omega, hb, by go_num, rfl, Z, HI2⟩
                        case measure => simp [intOf] <;> omega
                    · have hin : RC.length = i := by rw [HLC.out]; omega
                      have hi2 := HI.out
                      rw [← hin, List.drop_length, bestS] at hi2
                      have hi3 := hi2.symm
                      clear hin HI hi2
                      subst hi3
                      have XL := Y
                      clear Y
                      go_wp2_with fail
                      go_loopw [22, 204] (fun lv iv wr => ∃ (i b : Nat), i ≤ nr ∧ b < nr ∧ iv = .int .i64 i ∧ lv = .string (ratT (SR b)) ∧ Ext w7 wr ∧ Hid (bestS 1 RR (RR.drop i) i b = FA)) (fun _ iv _ => nr - (intOf iv).toNat)
                      case atStart => exact ⟨0, 0, Nat.zero_le _, hnr, rfl, rfl, XL, by show _ = _; rw [List.drop_zero]; exact HFA.out⟩
                      case round =>
                        obtain ⟨i, b, hi, hb, rfl, rfl, Y, HI⟩ := hrel
                        by_cases hlt : i < nr
                        · have hki : (i : Int) < (nr : Int) := by omega
                          have g1 := HGR.out i hlt
                          have g2 := HGR.out b hb
                          obtain ⟨q1, d1, d2, _⟩ := get_lt (xs := RR) (k := i) (by rw [HLR.out]; exact hlt)
                          have e1 : SR i = q1 := by rw [d1.out] at g1; exact (Option.some.inj g1).symm
                          have e2 : RR.getD b 0 = SR b := by rw [List.getD_eq_getElem?_getD, g2]; rfl
                          have hi2 := HI.out
                          rw [d2.out, bestS, e2, ← e1] at hi2
                          have HCM := Lib.hid (fun W => HCMP.out (SR i) (SR b) W (HRR.out i hlt) (HRR.out b hb))
                          have hk9 := Y.cell k7
                          obtain ⟨ai, ci, l, hrc, hml, hsl⟩ := HROW.out wr i (E.trans Y) hlt
                          have HDI := Lib.hid (HDR.out i l _ _ wr hml hsl (HX2.out.ext Y))
                          clear hsl
                          clear d1 d2 g1 g2 e1 e2 HI
                          go_wp2_with fail
                          refine (HDI.out).mono ?_
                          rintro e w9 ⟨rfl, YD⟩
                          go_wp2_with fail
                          refine (HCM.out _).mono ?_
                          rintro e w10 ⟨rfl, Y10⟩
                          have Z := (Y.trans YD).trans Y10
                          by_cases hc : 0 < cmpQ (SR i) (SR b) * 1
                          · rw [if_pos hc] at hi2
                            have HI2 := Lib.hid hi2
                            have hcc : 0 < cmpQ (SR i) (SR b) := by omega
                            clear hc hi2
                            go_wp2_with fail
                            go_roundw
                            case rel => exact ⟨i + 1, i, by omega, hlt, by go_num, rfl, Z, HI2⟩
                            case measure => simp [intOf] <;> omega
                          · rw [if_neg hc] at hi2
                            have HI2 := Lib.hid hi2
                            have hcc : cmpQ (SR i) (SR b) ≤ 0 := by omega
                            clear hc hi2
                            go_wp2_with fail
                            go_roundw
                            case rel => exact ⟨i + 1, b, by omega, hb, by go_num, rfl, Z, HI2⟩
                            case measure => simp [intOf] <;> omega
                        · have hin : RR.length = i := by rw [HLR.out]; omega
                          have hi2 := HI.out
                          rw [← hin, List.drop_length, bestS] at hi2
                          have hi3 := hi2.symm
                          clear hin HI hi2
                          subst hi3
                          have hbe1 : ((ratT (SC FB)).toList == (ratT (SC FB)).toList) = true := by simp
                          have hbe2 : ((ratT (SR FA)).toList == (ratT (SR FA)).toList) = true := by simp
                          generalize ratT (SC FB) = TA at *
                          generalize ratT (SR FA) = TB at *
                          have EE := E.trans Y
                          clear HROW HC0 HOS1 HOS2 HGR HGC HDR HDC HCL
                          go_wp2_with fail
                          go_ret
                          exact ⟨by first | rfl | simp, EE⟩
end Go.Proofs.YtjnaecicdaiimaaGreatDoor
