/- the law RegretPlays: its walks -/
import Derived.Test.YtjnaecicdaiimaaGreatDoorRgT
namespace Go.Proofs.YtjnaecicdaiimaaGreatDoor
open Go.RowKit
set_option linter.unusedVariables false

set_option maxHeartbeats 3200000 in
set_option maxRecDepth 100000 in
theorem plays_err1 (ao : Option Addr) (c nr : Nat) (n : Int) (w : World) (p : Int) (hp : (p != 0) = true) (hp0 : (p == 0) = false) (hpp : (p == p) = true)
    (H0 : Hid (∀ W, Ext w W → Calls Tryz.prog 9 #[] W fun e w' => e = .returned (.bool true) ∧ Ext W w'))
    (H1 : Hid (∀ W, Ext w W → Calls Tryz.prog 10 #[.slice ao nr c] W fun e w' => ∃ n, e = .returned (.int .i64 n) ∧ Ext W w'))
    (H2 : Hid (∀ W, Ext w W → Calls Tryz.prog 11 #[.slice ao nr c, .int .i64 n] W fun e w' => e = .returned (.tuple #[.slice none 0 0, .int .i64 p]) ∧ Ext W w'))
    (H3 : Hid (∀ W, Ext w W → Calls Tryz.prog 12 #[.slice ao nr c] W fun e w' => e = .returned (.int .i64 p) ∧ Ext W w')) :
    Calls Tryz.prog 3 #[.slice ao nr c, .int .i64 n] w fun e w' => e = .returned (.bool true) ∧ Ext w w' := by
  obtain ⟨bm, hbm⟩ : ∃ bm, w.heap.size = bm := ⟨_, rfl⟩
  obtain ⟨W0, hW0⟩ : ∃ W0, w.alloc (.cells #[.slice ao nr c] 23) = W0 := ⟨_, rfl⟩
  have E0 : Ext w W0 := by rw [← hW0]; exact (Ext.refl w).alloc _
  have k0 : W0.cell? ⟨bm, 0, none⟩ = some (.slice ao nr c) := by rw [← hW0, ← hbm]; simp [go_sem]
  go_enter Tryz.func3, Tryz.ntmps3
  go_wp2_with fail
  clear hW0 hbm
  refine (H0.out _ E0).mono ?_
  rintro e w1 ⟨rfl, X1⟩
  have E1 := E0.trans X1
  have k1 := X1.cell k0
  clear E0 X1 k0
  go_wp2_with fail
  refine (H1.out _ E1).mono ?_
  rintro e w2 ⟨n1, rfl, X2⟩
  have E2 := E1.trans X2
  have k2 := X2.cell k1
  clear E1 X2 k1
  by_cases hn : (6000 : Int) < n1
  · go_wp2_with fail
    go_ret
    exact ⟨rfl, E2⟩
  go_wp2_with fail
  refine (H2.out _ E2).mono ?_
  rintro e w3 ⟨rfl, X3⟩
  have kx := ((Ext.refl w3).alloc (.cells #[.slice none 0 0] 26)).cell (X3.cell k2)
  go_wp2_with fail
  have E3 := E2.trans X3
  have k3 := X3.cell k2
  obtain ⟨bl, hbl⟩ : ∃ bl, w3.heap.size = bl := ⟨_, rfl⟩
  obtain ⟨W4, hW4⟩ : ∃ W4, w3.alloc (.cells #[.slice none 0 0] 26) = W4 := ⟨_, rfl⟩
  have X4 : Ext w3 W4 := by rw [← hW4]; exact (Ext.refl w3).alloc _
  have l4 : W4.cell? ⟨bl, 0, none⟩ = some (.slice none 0 0) := by rw [← hW4, ← hbl]; simp [go_sem]
  have E4 := E3.trans X4
  have k4 := X4.cell k3
  clear E2 X3 k2 k3
  rw [hW4, hbl]
  clear hW4 hbl X4 E3 kx
  refine (H3.out _ E4).mono ?_
  rintro e w5 ⟨rfl, X5⟩
  have E5 := E4.trans X5
  have k5 := X5.cell k4
  have l5 := X5.cell l4
  clear E4 X5 k4 l4
  go_wp2_with fail
  go_ret
  exact ⟨by first | rfl | simp, E5⟩

set_option maxHeartbeats 3200000 in
set_option maxRecDepth 100000 in
theorem plays_err2 (ao : Option Addr) (c nr : Nat) (n : Int) (w : World) (hn0 : n < 0)
    (H0 : Hid (∀ W, Ext w W → Calls Tryz.prog 9 #[] W fun e w' => e = .returned (.bool true) ∧ Ext W w'))
    (H1 : Hid (∀ W, Ext w W → Calls Tryz.prog 10 #[.slice ao nr c] W fun e w' => ∃ n, e = .returned (.int .i64 n) ∧ Ext W w'))
    (H2 : Hid (∀ W, Ext w W → Calls Tryz.prog 11 #[.slice ao nr c, .int .i64 n] W fun e w' => e = .returned (.tuple #[.slice none 0 0, .int .i64 4]) ∧ Ext W w'))
    (H3 : Hid (∀ W, Ext w W → Calls Tryz.prog 12 #[.slice ao nr c] W fun e w' => e = .returned (.int .i64 0) ∧ Ext W w')) :
    Calls Tryz.prog 3 #[.slice ao nr c, .int .i64 n] w fun e w' => e = .returned (.bool true) ∧ Ext w w' := by
  obtain ⟨bm, hbm⟩ : ∃ bm, w.heap.size = bm := ⟨_, rfl⟩
  obtain ⟨W0, hW0⟩ : ∃ W0, w.alloc (.cells #[.slice ao nr c] 23) = W0 := ⟨_, rfl⟩
  have E0 : Ext w W0 := by rw [← hW0]; exact (Ext.refl w).alloc _
  have k0 : W0.cell? ⟨bm, 0, none⟩ = some (.slice ao nr c) := by rw [← hW0, ← hbm]; simp [go_sem]
  go_enter Tryz.func3, Tryz.ntmps3
  go_wp2_with fail
  clear hW0 hbm
  refine (H0.out _ E0).mono ?_
  rintro e w1 ⟨rfl, X1⟩
  have E1 := E0.trans X1
  have k1 := X1.cell k0
  clear E0 X1 k0
  go_wp2_with fail
  refine (H1.out _ E1).mono ?_
  rintro e w2 ⟨n1, rfl, X2⟩
  have E2 := E1.trans X2
  have k2 := X2.cell k1
  clear E1 X2 k1
  by_cases hn : (6000 : Int) < n1
  · go_wp2_with fail
    go_ret
    exact ⟨rfl, E2⟩
  go_wp2_with fail
  refine (H2.out _ E2).mono ?_
  rintro e w3 ⟨rfl, X3⟩
  have kx := ((Ext.refl w3).alloc (.cells #[.slice none 0 0] 26)).cell (X3.cell k2)
  go_wp2_with fail
  have E3 := E2.trans X3
  have k3 := X3.cell k2
  obtain ⟨bl, hbl⟩ : ∃ bl, w3.heap.size = bl := ⟨_, rfl⟩
  obtain ⟨W4, hW4⟩ : ∃ W4, w3.alloc (.cells #[.slice none 0 0] 26) = W4 := ⟨_, rfl⟩
  have X4 : Ext w3 W4 := by rw [← hW4]; exact (Ext.refl w3).alloc _
  have l4 : W4.cell? ⟨bl, 0, none⟩ = some (.slice none 0 0) := by rw [← hW4, ← hbl]; simp [go_sem]
  have E4 := E3.trans X4
  have k4 := X4.cell k3
  clear E2 X3 k2 k3
  rw [hW4, hbl]
  clear hW4 hbl X4 E3 kx
  refine (H3.out _ E4).mono ?_
  rintro e w5 ⟨rfl, X5⟩
  have E5 := E4.trans X5
  have k5 := X5.cell k4
  have l5 := X5.cell l4
  clear E4 X5 k4 l4
  go_wp2_with fail
  go_ret
  exact ⟨by first | rfl | simp, E5⟩

set_option maxHeartbeats 3200000 in
set_option maxRecDepth 100000 in
theorem plays_err3 (ao : Option Addr) (c nr : Nat) (n : Int) (w : World) (hn0 : 0 ≤ n) (hn2 : 200 < n)
    (H0 : Hid (∀ W, Ext w W → Calls Tryz.prog 9 #[] W fun e w' => e = .returned (.bool true) ∧ Ext W w'))
    (H1 : Hid (∀ W, Ext w W → Calls Tryz.prog 10 #[.slice ao nr c] W fun e w' => ∃ n, e = .returned (.int .i64 n) ∧ Ext W w'))
    (H2 : Hid (∀ W, Ext w W → Calls Tryz.prog 11 #[.slice ao nr c, .int .i64 n] W fun e w' => e = .returned (.tuple #[.slice none 0 0, .int .i64 4]) ∧ Ext W w'))
    (H3 : Hid (∀ W, Ext w W → Calls Tryz.prog 12 #[.slice ao nr c] W fun e w' => e = .returned (.int .i64 0) ∧ Ext W w')) :
    Calls Tryz.prog 3 #[.slice ao nr c, .int .i64 n] w fun e w' => e = .returned (.bool true) ∧ Ext w w' := by
  obtain ⟨bm, hbm⟩ : ∃ bm, w.heap.size = bm := ⟨_, rfl⟩
  obtain ⟨W0, hW0⟩ : ∃ W0, w.alloc (.cells #[.slice ao nr c] 23) = W0 := ⟨_, rfl⟩
  have E0 : Ext w W0 := by rw [← hW0]; exact (Ext.refl w).alloc _
  have k0 : W0.cell? ⟨bm, 0, none⟩ = some (.slice ao nr c) := by rw [← hW0, ← hbm]; simp [go_sem]
  go_enter Tryz.func3, Tryz.ntmps3
  go_wp2_with fail
  clear hW0 hbm
  refine (H0.out _ E0).mono ?_
  rintro e w1 ⟨rfl, X1⟩
  have E1 := E0.trans X1
  have k1 := X1.cell k0
  clear E0 X1 k0
  go_wp2_with fail
  refine (H1.out _ E1).mono ?_
  rintro e w2 ⟨n1, rfl, X2⟩
  have E2 := E1.trans X2
  have k2 := X2.cell k1
  clear E1 X2 k1
  by_cases hn : (6000 : Int) < n1
  · go_wp2_with fail
    go_ret
    exact ⟨rfl, E2⟩
  go_wp2_with fail
  refine (H2.out _ E2).mono ?_
  rintro e w3 ⟨rfl, X3⟩
  have kx := ((Ext.refl w3).alloc (.cells #[.slice none 0 0] 26)).cell (X3.cell k2)
  go_wp2_with fail
  have E3 := E2.trans X3
  have k3 := X3.cell k2
  obtain ⟨bl, hbl⟩ : ∃ bl, w3.heap.size = bl := ⟨_, rfl⟩
  obtain ⟨W4, hW4⟩ : ∃ W4, w3.alloc (.cells #[.slice none 0 0] 26) = W4 := ⟨_, rfl⟩
  have X4 : Ext w3 W4 := by rw [← hW4]; exact (Ext.refl w3).alloc _
  have l4 : W4.cell? ⟨bl, 0, none⟩ = some (.slice none 0 0) := by rw [← hW4, ← hbl]; simp [go_sem]
  have E4 := E3.trans X4
  have k4 := X4.cell k3
  clear E2 X3 k2 k3
  rw [hW4, hbl]
  clear hW4 hbl X4 E3 kx
  refine (H3.out _ E4).mono ?_
  rintro e w5 ⟨rfl, X5⟩
  have E5 := E4.trans X5
  have k5 := X5.cell k4
  have l5 := X5.cell l4
  clear E4 X5 k4 l4
  go_wp2_with fail
  go_ret
  exact ⟨by first | rfl | simp, E5⟩

set_option maxHeartbeats 3200000 in
set_option maxRecDepth 100000 in
theorem plays_vast (ao : Option Addr) (c nr n : Nat) (m : List (List ByteArray)) (ps : List (Int × Int)) (w : World) (HV : Hid (Rows Value.string w (.slice ao nr c) m)) (hn0 : (0 : Int) ≤ (n : Int)) (hn2 : (n : Int) ≤ 200) (HPL : Hid (ps.length = n))
    (H0 : Hid (∀ W, Ext w W → Calls Tryz.prog 9 #[] W fun e w' => e = .returned (.bool true) ∧ Ext W w'))
    (H1 : Hid (∀ W, Ext w W → Calls Tryz.prog 10 #[.slice ao nr c] W fun e w' => ∃ n, e = .returned (.int .i64 n) ∧ Ext W w'))
    (H2 : Hid (∀ W, Ext w W → Calls Tryz.prog 11 #[.slice ao nr c, .int .i64 (n : Int)] W fun e w' => ∃ u, e = .returned (.tuple #[u, .int .i64 0]) ∧ (Prs w' u ps ∧ CapOk u) ∧ Ext W w'))
    (H3 : Hid (∀ W, Ext w W → Calls Tryz.prog 12 #[.slice ao nr c] W fun e w' => e = .returned (.int .i64 0) ∧ Ext W w'))
    (H5 : Hid (∀ v W, MatsV W v [m] → Calls Tryz.prog 13 #[.int .i64 4, v] W fun e w' => e = .returned (.bool true) ∧ Ext W w')) :
    Calls Tryz.prog 3 #[.slice ao nr c, .int .i64 (n : Int)] w fun e w' => e = .returned (.bool true) ∧ Ext w w' := by
  obtain ⟨bm, hbm⟩ : ∃ bm, w.heap.size = bm := ⟨_, rfl⟩
  obtain ⟨W0, hW0⟩ : ∃ W0, w.alloc (.cells #[.slice ao nr c] 23) = W0 := ⟨_, rfl⟩
  have E0 : Ext w W0 := by rw [← hW0]; exact (Ext.refl w).alloc _
  have k0 : W0.cell? ⟨bm, 0, none⟩ = some (.slice ao nr c) := by rw [← hW0, ← hbm]; simp [go_sem]
  go_enter Tryz.func3, Tryz.ntmps3
  go_wp2_with fail
  clear hW0 hbm
  refine (H0.out _ E0).mono ?_
  rintro e w1 ⟨rfl, X1⟩
  have E1 := E0.trans X1
  have k1 := X1.cell k0
  clear E0 X1 k0
  go_wp2_with fail
  refine (H1.out _ E1).mono ?_
  rintro e w2 ⟨n1, rfl, X2⟩
  have E2 := E1.trans X2
  have k2 := X2.cell k1
  clear E1 X2 k1
  by_cases hn : (6000 : Int) < n1
  · go_wp2_with fail
    go_ret
    exact ⟨rfl, E2⟩
  go_wp2_with fail
  refine (H2.out _ E2).mono ?_
  rintro e w3 ⟨u, rfl, ⟨hu, hcap⟩, X3⟩
  obtain ⟨lo, d, rfl, _, hpc⟩ := hu
  have hld := hcap _ _ _ rfl
  have HPC := Lib.hid hpc
  clear hpc hcap
  rw [HPL.out] at hld ⊢
  have E3 := E2.trans X3
  have k3 := X3.cell k2
  obtain ⟨bl, hbl⟩ : ∃ bl, w3.heap.size = bl := ⟨_, rfl⟩
  obtain ⟨W4, hW4⟩ : ∃ W4, w3.alloc (.cells #[.slice lo n d] 26) = W4 := ⟨_, rfl⟩
  have X4 : Ext w3 W4 := by rw [← hW4]; exact (Ext.refl w3).alloc _
  have l4 : W4.cell? ⟨bl, 0, none⟩ = some (.slice lo n d) := by rw [← hW4, ← hbl]; simp [go_sem]
  have E4 := E3.trans X4
  have k4 := X4.cell k3
  clear E2 X3 k2 k3
  go_wp2_with fail
  clear hW4 hbl X4 E3
  refine (H3.out _ E4).mono ?_
  rintro e w5 ⟨rfl, X5⟩
  have E5 := E4.trans X5
  have k5 := X5.cell k4
  have l5 := X5.cell l4
  clear E4 X5 k4 l4
  go_wp2_with fail
  refine (H5.out _ _ (by exact lit_mats1 _ _ (HV.out.ext E5) _ (by first | rfl | simp))).mono ?_
  rintro e w6 ⟨rfl, X6⟩
  have X56 : Ext w5 w6 := Ext.trans (by repeat' (first | with_reducible exact Ext.refl _ | with_reducible apply Ext.alloc)) X6
  have E6 := E5.trans X56
  have k6 := X56.cell k5
  have l6 := X56.cell l5
  go_wp2_with fail
  go_ret
  exact ⟨by first | rfl | simp, E6⟩

set_option maxHeartbeats 3200000 in
set_option maxRecDepth 100000 in
theorem plays_long (ao : Option Addr) (c nr n : Nat) (m : List (List ByteArray)) (ps : List (Int × Int)) (w : World) (HV : Hid (Rows Value.string w (.slice ao nr c) m)) (hn12 : (12 : Int) < (n : Int)) (hn0 : (0 : Int) ≤ (n : Int)) (hn2 : (n : Int) ≤ 200) (HPL : Hid (ps.length = n))
    (H0 : Hid (∀ W, Ext w W → Calls Tryz.prog 9 #[] W fun e w' => e = .returned (.bool true) ∧ Ext W w'))
    (H1 : Hid (∀ W, Ext w W → Calls Tryz.prog 10 #[.slice ao nr c] W fun e w' => ∃ n, e = .returned (.int .i64 n) ∧ Ext W w'))
    (H2 : Hid (∀ W, Ext w W → Calls Tryz.prog 11 #[.slice ao nr c, .int .i64 (n : Int)] W fun e w' => ∃ u, e = .returned (.tuple #[u, .int .i64 0]) ∧ (Prs w' u ps ∧ CapOk u) ∧ Ext W w'))
    (H3 : Hid (∀ W, Ext w W → Calls Tryz.prog 12 #[.slice ao nr c] W fun e w' => e = .returned (.int .i64 0) ∧ Ext W w'))
    (H5 : Hid (∀ v W, MatsV W v [m] → Calls Tryz.prog 13 #[.int .i64 4, v] W fun e w' => e = .returned (.bool false) ∧ Ext W w')) :
    Calls Tryz.prog 3 #[.slice ao nr c, .int .i64 (n : Int)] w fun e w' => e = .returned (.bool true) ∧ Ext w w' := by
  obtain ⟨bm, hbm⟩ : ∃ bm, w.heap.size = bm := ⟨_, rfl⟩
  obtain ⟨W0, hW0⟩ : ∃ W0, w.alloc (.cells #[.slice ao nr c] 23) = W0 := ⟨_, rfl⟩
  have E0 : Ext w W0 := by rw [← hW0]; exact (Ext.refl w).alloc _
  have k0 : W0.cell? ⟨bm, 0, none⟩ = some (.slice ao nr c) := by rw [← hW0, ← hbm]; simp [go_sem]
  go_enter Tryz.func3, Tryz.ntmps3
  go_wp2_with fail
  clear hW0 hbm
  refine (H0.out _ E0).mono ?_
  rintro e w1 ⟨rfl, X1⟩
  have E1 := E0.trans X1
  have k1 := X1.cell k0
  clear E0 X1 k0
  go_wp2_with fail
  refine (H1.out _ E1).mono ?_
  rintro e w2 ⟨n1, rfl, X2⟩
  have E2 := E1.trans X2
  have k2 := X2.cell k1
  clear E1 X2 k1
  by_cases hn : (6000 : Int) < n1
  · go_wp2_with fail
    go_ret
    exact ⟨rfl, E2⟩
  go_wp2_with fail
  refine (H2.out _ E2).mono ?_
  rintro e w3 ⟨u, rfl, ⟨hu, hcap⟩, X3⟩
  obtain ⟨lo, d, rfl, _, hpc⟩ := hu
  have hld := hcap _ _ _ rfl
  have HPC := Lib.hid hpc
  clear hpc hcap
  rw [HPL.out] at hld ⊢
  have E3 := E2.trans X3
  have k3 := X3.cell k2
  obtain ⟨bl, hbl⟩ : ∃ bl, w3.heap.size = bl := ⟨_, rfl⟩
  obtain ⟨W4, hW4⟩ : ∃ W4, w3.alloc (.cells #[.slice lo n d] 26) = W4 := ⟨_, rfl⟩
  have X4 : Ext w3 W4 := by rw [← hW4]; exact (Ext.refl w3).alloc _
  have l4 : W4.cell? ⟨bl, 0, none⟩ = some (.slice lo n d) := by rw [← hW4, ← hbl]; simp [go_sem]
  have E4 := E3.trans X4
  have k4 := X4.cell k3
  clear E2 X3 k2 k3
  go_wp2_with fail
  clear hW4 hbl X4 E3
  refine (H3.out _ E4).mono ?_
  rintro e w5 ⟨rfl, X5⟩
  have E5 := E4.trans X5
  have k5 := X5.cell k4
  have l5 := X5.cell l4
  clear E4 X5 k4 l4
  go_wp2_with fail
  refine (H5.out _ _ (by exact lit_mats1 _ _ (HV.out.ext E5) _ (by first | rfl | simp))).mono ?_
  rintro e w6 ⟨rfl, X6⟩
  have X56 : Ext w5 w6 := Ext.trans (by repeat' (first | with_reducible exact Ext.refl _ | with_reducible apply Ext.alloc)) X6
  have E6 := E5.trans X56
  have k6 := X56.cell k5
  have l6 := X56.cell l5
  go_wp2_with fail
  go_ret
  exact ⟨by first | rfl | simp, E6⟩

set_option maxHeartbeats 6400000 in
set_option maxRecDepth 100000 in
theorem plays_full (b0 o0 c nr nc n c0 : Nat) (a0 : Option Addr) (m : List (List ByteArray)) (ps : List (Int × Int)) (w : World) (HV : Hid (Rows Value.string w (.slice (some ⟨b0, o0, none⟩) nr c) m)) (hn0 : (0 : Int) ≤ (n : Int)) (hn2 : (n : Int) ≤ 200) (hn12 : (n : Int) ≤ 12) (HPL : Hid (ps.length = n))
    (hnr : 0 < nr) (hnc : 0 < nc) (hnri : (0 : Int) < (nr : Int)) (hnr2 : (nr : Int) ≤ 1000) (hnc2 : (nc : Int) ≤ 1000) (HC0 : Hid (∀ W, Ext w W → W.cell? ⟨b0, o0, none⟩ = some (.slice a0 nc c0)))
    (HM : Hid (∀ W (x y : Nat), Ext w W → x < nr → y < nc → ∃ bb ob cx lx sx, m[x]? = some lx ∧ lx[y]? = some sx ∧ W.cell? ⟨b0, o0 + x, none⟩ = some (.slice (some ⟨bb, ob, none⟩) lx.length cx) ∧ W.cell? ⟨bb, ob + y, none⟩ = some (.string sx)))
    (HRB : Hid (∀ l ∈ m, ∀ s ∈ l, RB 12 (ratOf s))) (HTX : Hid (∀ l ∈ m, ∀ s ∈ l, ratT (ratOf s) = s)) (HPB : Hid (∀ p ∈ ps, ∃ x y : Nat, p = ((x : Int), (y : Int)) ∧ x < nr ∧ y < nc))
    (HB : Hid (∀ (t : Nat) p, ps[t]? = some p → p = bestP (numM m) nr nc (ps.take t)))
    (H0 : Hid (∀ W, Ext w W → Calls Tryz.prog 9 #[] W fun e w' => e = .returned (.bool true) ∧ Ext W w'))
    (H1 : Hid (∀ W, Ext w W → Calls Tryz.prog 10 #[.slice (some ⟨b0, o0, none⟩) nr c] W fun e w' => ∃ n, e = .returned (.int .i64 n) ∧ Ext W w'))
    (H2 : Hid (∀ W, Ext w W → Calls Tryz.prog 11 #[.slice (some ⟨b0, o0, none⟩) nr c, .int .i64 (n : Int)] W fun e w' => ∃ u, e = .returned (.tuple #[u, .int .i64 0]) ∧ (Prs w' u ps ∧ CapOk u) ∧ Ext W w'))
    (H3 : Hid (∀ W, Ext w W → Calls Tryz.prog 12 #[.slice (some ⟨b0, o0, none⟩) nr c] W fun e w' => e = .returned (.int .i64 0) ∧ Ext W w'))
    (H5 : Hid (∀ v W, MatsV W v [m] → Calls Tryz.prog 13 #[.int .i64 4, v] W fun e w' => e = .returned (.bool false) ∧ Ext W w')) :
    Calls Tryz.prog 3 #[.slice (some ⟨b0, o0, none⟩) nr c, .int .i64 (n : Int)] w fun e w' => e = .returned (.bool true) ∧ Ext w w' := by
  obtain ⟨bm, hbm⟩ : ∃ bm, w.heap.size = bm := ⟨_, rfl⟩
  obtain ⟨W0, hW0⟩ : ∃ W0, w.alloc (.cells #[.slice (some ⟨b0, o0, none⟩) nr c] 23) = W0 := ⟨_, rfl⟩
  have E0 : Ext w W0 := by rw [← hW0]; exact (Ext.refl w).alloc _
  have k0 : W0.cell? ⟨bm, 0, none⟩ = some (.slice (some ⟨b0, o0, none⟩) nr c) := by rw [← hW0, ← hbm]; simp [go_sem]
  go_enter Tryz.func3, Tryz.ntmps3
  go_wp2_with fail
  clear hW0 hbm
  refine (H0.out _ E0).mono ?_
  rintro e w1 ⟨rfl, X1⟩
  have E1 := E0.trans X1
  have k1 := X1.cell k0
  clear E0 X1 k0
  go_wp2_with fail
  refine (H1.out _ E1).mono ?_
  rintro e w2 ⟨n1, rfl, X2⟩
  have E2 := E1.trans X2
  have k2 := X2.cell k1
  clear E1 X2 k1
  by_cases hn : (6000 : Int) < n1
  · go_wp2_with fail
    go_ret
    exact ⟨rfl, E2⟩
  go_wp2_with fail
  refine (H2.out _ E2).mono ?_
  rintro e w3 ⟨u, rfl, ⟨hu, hcap⟩, X3⟩
  obtain ⟨lo, d, rfl, _, hpc⟩ := hu
  have hld := hcap _ _ _ rfl
  have HPC := Lib.hid hpc
  clear hpc hcap
  rw [HPL.out] at hld ⊢
  have hx3 := Ext.refl w3
  have E3 := E2.trans X3
  have k3 := X3.cell k2
  obtain ⟨bl, hbl⟩ : ∃ bl, w3.heap.size = bl := ⟨_, rfl⟩
  obtain ⟨W4, hW4⟩ : ∃ W4, w3.alloc (.cells #[.slice lo n d] 26) = W4 := ⟨_, rfl⟩
  have X4 : Ext w3 W4 := by rw [← hW4]; exact (Ext.refl w3).alloc _
  have l4 : W4.cell? ⟨bl, 0, none⟩ = some (.slice lo n d) := by rw [← hW4, ← hbl]; simp [go_sem]
  have E4 := E3.trans X4
  have k4 := X4.cell k3
  clear E2 X3 k2 k3
  go_wp2_with fail
  clear hW4 hbl E3
  refine (H3.out _ E4).mono ?_
  rintro e w5 ⟨rfl, X5⟩
  have E5 := E4.trans X5
  have k5 := X5.cell k4
  have l5 := X5.cell l4
  have X35 := X4.trans X5
  clear E4 X5 X4 k4 l4
  go_wp2_with fail
  refine (H5.out _ _ (by exact lit_mats1 _ _ (HV.out.ext E5) _ (by first | rfl | simp))).mono ?_
  rintro e w6 ⟨rfl, X6⟩
  have X56 : Ext w5 w6 := Ext.trans (by repeat' (first | with_reducible exact Ext.refl _ | with_reducible apply Ext.alloc)) X6
  have E6 := E5.trans X56
  have k6 := X56.cell k5
  have l6 := X56.cell l5
  have HM6 := Lib.hid (fun W x y (hx : Ext w6 W) => HM.out W x y (E6.trans hx))
  have hc00 := HC0.out _ E6
  have HPC6 := Lib.hid (HPC.out.ext (X35.trans X56))
  have HCMP := Lib.hid (fun (a b : Rat) W (ha : RB 4000 a) (hb : RB 4000 b) => by have := rCmp_any (by omega) ha hb W; rwa [cmpQ_sub] at this)
  obtain ⟨wo, rfl⟩ : ∃ wo : World, wo = w6 := ⟨_, rfl⟩
  clear HV HC0 HM HPC X35 X56 X6 E5 k5 l5 H0 H1 H2 H3 H5 hx3
  go_wp2_with fail
  go_loopw [66] (fun tv wr => ∃ (t : Nat), t ≤ n ∧ tv = .int .i64 t ∧ Ext wo wr) (fun tv _ => n - (intOf tv).toNat)
  case atStart => exact ⟨0, Nat.zero_le _, rfl, Ext.refl _⟩
  case round =>
    obtain ⟨t, ht, rfl, XT⟩ := hrel
    by_cases hlt : t < n
    · have hkt : (t : Int) < (n : Int) := by omega
      obtain ⟨p, d1, d2, d3⟩ := get_lt (xs := ps) (k := t) (by rw [HPL.out]; exact hlt)
      obtain ⟨b2, o2, rfl, q0, q1⟩ := HPC6.out.ext XT t p d1.out
      have hbp := HB.out t p d1.out
      obtain ⟨x, y, hxy, hx, hy⟩ := HPB.out p (List.mem_of_getElem? d1.out)
      subst hxy
      dsimp only at q0 q1
      obtain ⟨RR, hRR⟩ : ∃ RR, sumsR (numM m) nr (ps.take t) = RR := ⟨_, rfl⟩
      obtain ⟨RC, hRC⟩ : ∃ RC, sumsC (numM m) nc (ps.take t) = RC := ⟨_, rfl⟩
      have HFA : Hid (bestS 1 RR RR 0 0 = x) := by
        show _ = _
        have := congrArg Prod.fst hbp
        unfold bestP at this
        rw [hRR] at this
        exact (Int.ofNat.inj this).symm
      have HFB : Hid (bestS (-1) RC RC 0 0 = y) := by
        show _ = _
        have := congrArg Prod.snd hbp
        unfold bestP at this
        rw [hRC] at this
        exact (Int.ofNat.inj this).symm
      have HLR : Hid (RR.length = nr) := by show _ = _; rw [← hRR, sumsR_len]
      have HLC : Hid (RC.length = nc) := by show _ = _; rw [← hRC, sumsC_len]
      obtain ⟨SR, hSR⟩ : ∃ SR : Nat → Rat, (fun i => sumP (fR (numM m) i) (ps.take t) 0) = SR := ⟨_, rfl⟩
      obtain ⟨SC, hSC⟩ : ∃ SC : Nat → Rat, (fun i => sumP (fC (numM m) i) (ps.take t) 0) = SC := ⟨_, rfl⟩
      have HGR : Hid (∀ i, i < nr → RR[i]? = some (SR i)) := fun i hi => by rw [← hRR, ← hSR, sumsR_get _ _ hi]
      have HGC : Hid (∀ i, i < nc → RC[i]? = some (SC i)) := fun i hi => by rw [← hRC, ← hSC, sumsC_get _ _ hi]
      have kt := XT.cell k6
      have lt := XT.cell l6
      have mt := XT.cell hc00
      obtain ⟨bt, hbt⟩ : ∃ bt, wr.heap.size = bt := ⟨_, rfl⟩
      obtain ⟨W7, hW7⟩ : ∃ W7, (wr.alloc (.cells #[.int .i64 (t : Int)] 3)).alloc (.cells #[.int .i64 (x : Int), .int .i64 (y : Int)] 32) = W7 := ⟨_, rfl⟩
      have XB : Ext wr W7 := by rw [← hW7]; exact ((Ext.refl wr).alloc _).alloc _
      have tA : W7.cell? ⟨bt, 0, none⟩ = some (.int .i64 (t : Int)) := by rw [← hW7]; exact ((Ext.refl _).alloc _).cell (by rw [← hbt]; simp [go_sem])
      have xA0 : W7.cell? ⟨bt + 1, 0, none⟩ = some (.int .i64 (x : Int)) := by rw [← hW7, ← hbt]; simp [go_sem]
      have xA1 : W7.cell? ⟨bt + 1, 1, none⟩ = some (.int .i64 (y : Int)) := by rw [← hW7, ← hbt]; simp [go_sem]
      have kA := XB.cell kt
      have lA := XB.cell lt
      have mA := XB.cell mt
      have PC : PlayC W7 bl bt bm b2 o2 b0 o0 d nr nc c t m ps := by
        refine ⟨by rw [HPL.out]; exact lA, tA, kA, by have := HPL.out; omega, by have := HPL.out; omega, by have := HPL.out; omega, fun j p hj => ?_, HPB.out, fun x y h1 h2 => HM6.out _ x y (XT.trans XB) h1 h2, HRB.out, HTX.out⟩
        obtain ⟨b3, o3, e3, c0, c1⟩ := HPC6.out.ext (XT.trans XB) j p hj
        simp only [Option.some.injEq, Addr.mk.injEq, and_true] at e3
        obtain ⟨rfl, rfl⟩ := e3
        exact ⟨c0, c1⟩
      have HP1 : Hid (∀ W, Ext W7 W → ∀ i, i < nr → Calls Tryz.prog 14 #[.int .i64 (i : Int), .pointer (some ⟨bl, 0, none⟩), .pointer (some ⟨bt, 0, none⟩), .pointer (some ⟨bm, 0, none⟩)] W fun e w' => e = .returned (.string (ratT (SR i))) ∧ Ext W w') := fun W hW i hi => by rw [← hSR]; exact play1_any (PC.ext hW) i hi
      have HP2 : Hid (∀ W, Ext W7 W → ∀ i, i < nc → Calls Tryz.prog 16 #[.int .i64 (i : Int), .pointer (some ⟨bl, 0, none⟩), .pointer (some ⟨bt, 0, none⟩), .pointer (some ⟨bm, 0, none⟩)] W fun e w' => e = .returned (.string (ratT (SC i))) ∧ Ext W w') := fun W hW i hi => by rw [← hSC]; exact play2_any (PC.ext hW) i hi
      have HRR : Hid (∀ i, i < nr → RB 4000 (SR i)) := fun i hi => by rw [← hSR]; exact sumP_take_RB PC _ (PC.fR hi) t
      have HRC : Hid (∀ i, i < nc → RB 4000 (SC i)) := fun i hi => by rw [← hSC]; exact sumP_take_RB PC _ (PC.fC hi) t
      clear hRR hRC hSR hSC PC d1 d2 d3 hbp kt lt mt tA lA
      go_wp2_with fail
      clear hbt hW7 q0 q1
      go_loopw [12, 75] (fun bv iv wr => ∃ (i b : Nat), i ≤ nr ∧ b < nr ∧ iv = .int .i64 i ∧ bv = .int .i64 b ∧ Ext W7 wr ∧ Hid (bestS 1 RR (RR.drop i) i b = x)) (fun _ iv _ => nr - (intOf iv).toNat)
      case atStart => exact ⟨0, 0, Nat.zero_le _, hnr, rfl, rfl, Ext.refl _, by show _ = _; rw [List.drop_zero]; exact HFA.out⟩
      case round =>
        obtain ⟨i, b, hi, hb, rfl, rfl, Y, HI⟩ := hrel
        by_cases hlt : i < nr
        · have hki : (i : Int) < (nr : Int) := by omega
          have g1 := HGR.out i hlt
          have g2 := HGR.out b hb
          obtain ⟨q1, d1, d2, _⟩ := get_lt (xs := RR) (k := i) (by rw [HLR.out]; exact hlt)
          have e1 : SR i = q1 := by rw [d1.out] at g1; exact (Option.some.inj g1).symm
          have e2 : RR.getD b 0 = SR b := by rw [List.getD_eq_getElem?_getD, g2]; rfl
          have hi2 := HI.out
          rw [d2.out, bestS, e2, ← e1] at hi2
          have HA := Lib.hid (fun W (hx : Ext wr W) => HP1.out W (Y.trans hx) i hlt)
          have HA2 := Lib.hid (fun W (hx : Ext wr W) => HP1.out W (Y.trans hx) b hb)
          have HCM := Lib.hid (fun W => HCMP.out (SR i) (SR b) W (HRR.out i hlt) (HRR.out b hb))
          generalize SR i = qa at *
          generalize SR b = qb at *
          have k9 := Y.cell kA
          clear d1 d2 g1 g2 e1 e2 HI
          go_wp2_with fail
          refine (HA.out _ (Ext.refl _)).mono ?_
          rintro e w8 ⟨rfl, Y8⟩
          go_wp2_with fail
          refine (HA2.out _ Y8).mono ?_
          rintro e w9 ⟨rfl, Y9⟩
          go_wp2_with fail
          refine (HCM.out _).mono ?_
          rintro e w10 ⟨rfl, Y10⟩
          have Z := ((Y.trans Y8).trans Y9).trans Y10
          by_cases hc : 0 < cmpQ qa qb * 1
          · rw [if_pos hc] at hi2
            have HI2 := Lib.hid hi2
            have hcc : 0 < cmpQ qa qb := by omega
            clear hc hi2 k9 Y8 Y9 Y10
            go_wp2_with fail
            go_roundw
            case rel => exact ⟨i + 1, i, by omega, hlt, by go_num, rfl, Z, HI2⟩
            case measure => simp [intOf] <;> omega
          · rw [if_neg hc] at hi2
            have HI2 := Lib.hid hi2
            have hcc : cmpQ qa qb ≤ 0 := by omega
            clear hc hi2 k9 Y8 Y9 Y10
            go_wp2_with fail
            go_roundw
            case rel => exact ⟨i + 1, b, by omega, hb, by go_num, rfl, Z, HI2⟩
            case measure => simp [intOf] <;> omega
        · have hin : RR.length = i := by rw [HLR.out]; omega
          have hi2 := HI.out
          rw [← hin, List.drop_length, bestS] at hi2
          clear hin HI
          subst hi2
          have Z2 := XB.trans Y
          have kB := Y.cell kA
          have mB := Y.cell mA
          have xB0 := Y.cell xA0
          have xB1 := Y.cell xA1
          have HPW := Lib.hid (fun W (hx : Ext wr W) => HP2.out W (Y.trans hx))
          obtain ⟨w11, rfl⟩ : ∃ w11 : World, w11 = wr := ⟨_, rfl⟩
          go_wp2_with fail
          go_loopw [13, 92] (fun bv iv wr => ∃ (i b : Nat), i ≤ nc ∧ b < nc ∧ iv = .int .i64 i ∧ bv = .int .i64 b ∧ Ext w11 wr ∧ Hid (bestS (-1) RC (RC.drop i) i b = y)) (fun _ iv _ => nc - (intOf iv).toNat)
          case atStart => exact ⟨0, 0, Nat.zero_le _, hnc, rfl, rfl, Ext.refl _, by show _ = _; rw [List.drop_zero]; exact HFB.out⟩
          case round =>
            obtain ⟨i, b, hi, hb, rfl, rfl, Y, HI⟩ := hrel
            by_cases hlt : i < nc
            · have hki : (i : Int) < (nc : Int) := by omega
              have g1 := HGC.out i hlt
              have g2 := HGC.out b hb
              obtain ⟨q1, d1, d2, _⟩ := get_lt (xs := RC) (k := i) (by rw [HLC.out]; exact hlt)
              have e1 : SC i = q1 := by rw [d1.out] at g1; exact (Option.some.inj g1).symm
              have e2 : RC.getD b 0 = SC b := by rw [List.getD_eq_getElem?_getD, g2]; rfl
              have hi2 := HI.out
              rw [d2.out, bestS, e2, ← e1] at hi2
              have HA := Lib.hid (fun W (hx : Ext wr W) => HPW.out W (Y.trans hx) i hlt)
              have HA2 := Lib.hid (fun W (hx : Ext wr W) => HPW.out W (Y.trans hx) b hb)
              have HCM := Lib.hid (fun W => HCMP.out (SC i) (SC b) W (HRC.out i hlt) (HRC.out b hb))
              generalize SC i = qa at *
              generalize SC b = qb at *
              have k9 := Y.cell kB
              clear d1 d2 g1 g2 e1 e2 HI
              go_wp2_with fail
              refine (HA.out _ (Ext.refl _)).mono ?_
              rintro e w8 ⟨rfl, Y8⟩
              go_wp2_with fail
              refine (HA2.out _ Y8).mono ?_
              rintro e w9 ⟨rfl, Y9⟩
              go_wp2_with fail
              refine (HCM.out _).mono ?_
              rintro e w10 ⟨rfl, Y10⟩
              have Z := ((Y.trans Y8).trans Y9).trans Y10
              by_cases hc : 0 < cmpQ qa qb * (-1)
              · rw [if_pos hc] at hi2
                have HI2 := Lib.hid hi2
                have hcc : cmpQ qa qb < 0 := by omega
                clear hc hi2 k9 Y8 Y9 Y10
                go_wp2_with fail
                go_roundw
                case rel => exact ⟨i + 1, i, by omega, hlt, by go_num, rfl, Z, HI2⟩
                case measure => simp [intOf] <;> omega
              · rw [if_neg hc] at hi2
                have HI2 := Lib.hid hi2
                have hcc : 0 ≤ cmpQ qa qb := by omega
                clear hc hi2 k9 Y8 Y9 Y10
                go_wp2_with fail
                go_roundw
                case rel => exact ⟨i + 1, b, by omega, hb, by go_num, rfl, Z, HI2⟩
                case measure => simp [intOf] <;> omega
            · have hin : RC.length = i := by rw [HLC.out]; omega
              have hi2 := HI.out
              rw [← hin, List.drop_length, bestS] at hi2
              clear hin HI
              subst hi2
              have XN := Z2.trans Y
              have x9 := Y.cell xB0
              have x9' := Y.cell xB1
              go_wp2_with fail
              go_roundw
              case rel => exact ⟨t + 1, by omega, by go_num, XT.trans XN⟩
              case measure => simp [intOf] <;> omega
    · go_wp2_with fail
      go_ret
      exact ⟨by first | rfl | simp, E6.trans XT⟩
end Go.Proofs.YtjnaecicdaiimaaGreatDoor
