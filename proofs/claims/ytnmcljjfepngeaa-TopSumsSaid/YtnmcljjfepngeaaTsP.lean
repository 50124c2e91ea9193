/- the law TopSums -/
import Derived.Test.YtnmcljjfepngeaaTsQ
import Derived.Deep.Cut
import Derived.IntWalk
namespace Go.Proofs.Ytnmcljjfepngeaa
open Go.RowKit Go.Maps
set_option linter.unusedVariables false

theorem wf_bds {x : Int} (h : (Lit.int .i64 x).wf = true) : -9223372036854775808 ≤ x ∧ x ≤ 9223372036854775807 := by
  have e1 : IntKind.i64.min = -9223372036854775808 := by decide
  have e2 : IntKind.i64.max = 9223372036854775807 := by decide
  simp [Lit.wf] at h
  omega
/-! ### the premises -/
theorem uH_lt {s : Nat} (h : s ∈ uH) : s < 10 := List.mem_range.1 h
theorem uP_mem {s : Nat × List Nat} (h : s ∈ uP) : s.1 < 10 ∧ s.2 ∈ uS := by
  unfold uP at h
  obtain ⟨n, hn, h2⟩ := List.mem_flatMap.1 h
  obtain ⟨l, hl, rfl⟩ := List.mem_map.1 h2
  exact ⟨uH_lt hn, hl⟩
theorem uP_of {n : Nat} {l : List Nat} (h : n < 10) (hl : l ∈ uS) : (n, l) ∈ uP := List.mem_flatMap.2 ⟨n, List.mem_range.2 h, List.mem_map.2 ⟨l, hl, rfl⟩⟩
theorem uS_ok : ∀ l ∈ uS, l.length ≤ 64 ∧ (∀ x ∈ l, x < 256) ∧ l.sum ≤ 64 ∧ (sN l).length ≤ 1000 ∧ vS l < 4 := by decide +kernel
theorem vH_lt {q s : Nat} (hq : q < 5) (hs : s < 10) : vH q s < 10 := by
  unfold vH
  split
  · exact hs
  · have := Nat.mod_lt s (show q + 1 > 0 by omega)
    omega
theorem hN_len (q s : Nat) : (hN q s).length ≤ s := by
  rw [hN_eq, hNk_length]
  split <;> omega
theorem vP_lt {q : Nat} (hq : q < 5) {s : Nat × List Nat} (hs : s ∈ uP) : vP q s < 16 := by
  obtain ⟨h1, h2⟩ := uP_mem hs
  have a := vH_lt hq h1
  have b := (uS_ok s.2 h2).2.2.2.2
  exact Nat.xor_lt_two_pow (n := 4) (by omega) (by omega)
theorem pN_len {q : Nat} {s : Nat × List Nat} (hs : s ∈ uP) : (pN q s).length ≤ 20000 := by
  obtain ⟨h1, h2⟩ := uP_mem hs
  have a := hN_len q s.1
  have b := (uS_ok s.2 h2).2.2.2.1
  unfold pN
  rw [List.length_append, List.length_map, List.length_map]
  omega
theorem uP_len : uP.length = 360 := by decide +kernel
theorem heapC {q : Nat} (hq : q < 5) : ∀ s ∈ uH, ∀ W, Calls Try.prog 34 #[.agg #[.int .i64 q], encI s] W fun e w' => ∃ u, e = .returned u ∧ RowOf encI w' u (hN q s) ∧ Ext W w' := fun s hs W => by
  have := uH_lt hs
  exact heapNext_any q s W (by omega) (by omega)
theorem splitC : ∀ s ∈ uS, ∀ W, Calls Try.prog 35 #[.agg #[], encB s] W fun e w' => ∃ u, e = .returned u ∧ RowOf encB w' u (sN s) ∧ Ext W w' := fun s hs W => by
  obtain ⟨h1, h2, h3, h4, _⟩ := uS_ok s hs
  refine (splitNext_any s W h1 h2 h3).mono ?_
  rintro e w' ⟨u, rfl, hu, X⟩
  exact ⟨u, rfl, own_rowOf hu (by omega), X⟩
theorem bothC {q : Nat} (hq : q < 5) : ∀ s ∈ uP, ∀ W, Calls Try.prog 45 #[bothV q, encQ s] W fun e w' => ∃ u, e = .returned u ∧ QIn w' u (pN q s) ∧ Ext W w' := fun s hs W => by
  obtain ⟨h0, h9⟩ := uP_mem hs
  obtain ⟨h1, h2, h3, h4, _⟩ := uS_ok s.2 h9
  have := hN_len q s.1
  exact bothNext_any q s.1 s.2 W (by omega) (by omega) h1 h2 h3 (by omega) (by omega)
theorem heapV {q : Nat} (hq : q < 5) {most : Nat} (hm1 : 100 ≤ most) (hm2 : most ≤ 20000) {s : Nat} (hs : s < 10) (w : World) : Calls Try.prog 4 #[.iface 26 (.agg #[.int .i64 (q : Int)]), encI s, .int .i64 most] w fun e w' => e = .returned (.tuple #[.int .i64 (vH q s : Nat), .int .i64 0]) ∧ Ext w w' :=
  nimValue_int q (gmH hq) (fun s hs => by have := uH_lt hs; show s < 1000000; omega) (heapC hq) (fun s hs => by have := vH_lt hq (uH_lt hs); omega) (fun s hs => by have := hN_len q s; have := uH_lt hs; omega) most (by show 2 * 10 < most; omega) hm2 s (List.mem_range.2 hs) w
theorem splitV {most : Nat} (hm1 : 100 ≤ most) (hm2 : most ≤ 20000) {s : List Nat} (hs : s ∈ uS) (w : World) : Calls Try.prog 8 #[.iface 29 (.agg #[]), encB s, .int .i64 most] w fun e w' => e = .returned (.tuple #[.int .i64 (vS s : Nat), .int .i64 0]) ∧ Ext w w' :=
  nimValue_string 0 gmS (fun s hs => ⟨(uS_ok s hs).1, (uS_ok s hs).2.1⟩) splitC (fun s hs => by have := (uS_ok s hs).2.2.2.2; omega) (fun s hs => by have := (uS_ok s hs).2.2.2.1; omega) most (by show 2 * 36 < most; omega) hm2 s hs w
theorem domQ_of {s : Nat × List Nat} (h : s ∈ uP) : domQ s := by
  obtain ⟨h0, h9⟩ := uP_mem h
  exact ⟨by show s.1 < 1000000; omega, (uS_ok s.2 h9).1, (uS_ok s.2 h9).2.1⟩
theorem bothVal {q : Nat} (hq : q < 5) {most : Nat} (hm1 : 1000 ≤ most) (hm2 : most ≤ 20000) {s : Nat × List Nat} (hs : s ∈ uP) (w : World) : Calls Try.prog 7 #[.iface 35 (bothV q), encQ s, .int .i64 most] w fun e w' => e = .returned (.tuple #[.int .i64 (vP q s : Nat), .int .i64 0]) ∧ Ext w w' :=
  nimValue_pair q (gmP hq) (fun s hs => domQ_of hs) (bothC hq) (fun s hs => by have := vP_lt hq hs; omega) (fun s hs => pN_len hs) most (by rw [uP_len]; omega) hm2 s hs w
theorem bothW {q : Nat} (hq : q < 5) {most : Nat} (hm1 : 1000 ≤ most) (hm2 : most ≤ 20000) {s : Nat × List Nat} (hs : s ∈ uP) (w : World) : Calls Try.prog 6 #[.iface 35 (bothV q), encQ s, .int .i64 most] w fun e w' => e = .returned (winV (winF q (pN q s))) ∧ Ext w w' :=
  wins_any q (gmP hq) (fun s hs => domQ_of hs) (bothC hq) (fun s hs => by have := vP_lt hq hs; omega) (fun s hs => pN_len hs) most (by rw [uP_len]; omega) hm2 s hs w
/-- a state from which no 0 is reached has the value 0 -/
theorem win_none {q : Nat} (hq : q < 5) {s : Nat × List Nat} (hs : s ∈ uP) (h : winF q (pN q s) = none) : vP q s = 0 :=
  ((gmP hq).zero hs).2 fun t ht e => by
    have := List.find?_eq_none.1 h t ht
    simp [e] at this
/-- a state from which a 0 is reached has another value; from there none is reached -/
theorem win_some {q : Nat} (hq : q < 5) {s t : Nat × List Nat} (hs : s ∈ uP) (h : winF q (pN q s) = some t) : vP q s ≠ 0 ∧ t ∈ uP ∧ winF q (pN q t) = none := by
  have h1 := List.find?_some h
  have h2 := List.mem_of_find?_eq_some h
  have h3 : vP q t = 0 := by simpa using h1
  have h4 := ((gmP hq).clo s hs t h2).1
  refine ⟨fun e => ((gmP hq).zero hs).1 e t h2 h3, h4, ?_⟩
  unfold winF
  rw [List.find?_eq_none]
  intro u hu
  have := ((gmP hq).zero h4).1 h3 u hu
  simp [this]

def sgW (n m : Nat) : Int := ((n : Int).tmod m + m).tmod m
theorem tmod_bd (n : Int) {m : Nat} (hm : 0 < m) (hm2 : m < 1000) : ∃ k : Nat, k < m ∧ (wrap64 (n.tmod (m : Int) + m)).tmod m = (k : Int) := by
  have h1 := Int.tmod_lt_of_pos n (show (0 : Int) < m by omega)
  have h2 : -(m : Int) < n.tmod m := by
    have := Int.neg_tmod n m
    have h3 := Int.tmod_lt_of_pos (-n) (show (0 : Int) < m by omega)
    omega
  have h4 := Int.tmod_nonneg (m : Int) (show 0 ≤ n.tmod m + m by omega)
  have h5 := Int.tmod_lt_of_pos (n.tmod m + m) (show (0 : Int) < m by omega)
  have h6 : wrap64 (n.tmod (m : Int) + m) = n.tmod m + m := Go.IntWalk.wrap64_in _ ⟨by omega, by omega⟩
  rw [h6]
  exact ⟨((n.tmod m + m).tmod m).toNat, by omega, by omega⟩

theorem sumLit (a b : Nat) (ha : a < 16) (hb : b < 16) (W : World) : Calls Try.prog 5 #[.slice (some ⟨W.heap.size, 0, none⟩) 2 2] (W.alloc (.cells #[.int .i64 (a : Int), .int .i64 (b : Int)] 3)) fun e w' => e = .returned (.int .i64 (a ^^^ b : Nat)) ∧ Ext (W.alloc (.cells #[.int .i64 (a : Int), .int .i64 (b : Int)] 3)) w' := by
  have h := World.ownsRow_lit (base := W.heap.size) (e := 3) (size := 1) W #[.int .i64 (a : Int), .int .i64 (b : Int)] 2 (Nat.le_refl _) (by unfold maxLen; omega) rfl
  exact sum2_any _ a b _ ha hb (own_rowOf (xs := [a, b]) h (by omega))

set_option maxHeartbeats 3200000 in
set_option maxRecDepth 100000 in
theorem topSums_walk (a b c : Int) (w : World) (ha : -9223372036854775808 ≤ a) (ha2 : a ≤ 9223372036854775807) (hb : -9223372036854775808 ≤ b) (hb2 : b ≤ 9223372036854775807) (hc : -9223372036854775808 ≤ c) (hc2 : c ≤ 9223372036854775807) :
    Calls Try.prog 3 #[.int .i64 a, .int .i64 b, .int .i64 c] w fun e w' => e = .returned (.bool true) ∧ Ext w w' := by
  have HBF : Hid (∀ W : World, Calls Try.prog 9 #[.slice (some ⟨W.heap.size, 0, none⟩) 3 3] (W.alloc (.cells #[.int .i64 0, .int .i64 0, .int .i64 0] 22)) fun e w' => e = .returned (.bool true) ∧ Ext (W.alloc (.cells #[.int .i64 0, .int .i64 0, .int .i64 0] 22)) w') := fun W => by
    have h := World.ownsRow_lit (base := W.heap.size) (e := 22) (size := 1) W #[.int .i64 0, .int .i64 0, .int .i64 0] 3 (Nat.le_refl _) (by unfold maxLen; omega) rfl
    exact bFine_any _ _ (own_rowOf (xs := [0, 0, 0]) h (by omega))
  have H1 : Hid (∀ W, Calls Try.prog 4 #[.iface 26 (.agg #[.int .i64 2]), .int .i64 5, .int .i64 100] W fun e w' => e = .returned (.tuple #[.int .i64 2, .int .i64 0]) ∧ Ext W w') := fun W => heapV (q := 2) (by omega) (most := 100) (by omega) (by omega) (s := 5) (by omega) W
  have H2 : Hid (∀ W : World, Calls Try.prog 5 #[.slice (some ⟨W.heap.size, 0, none⟩) 2 2] (W.alloc (.cells #[.int .i64 5, .int .i64 3] 3)) fun e w' => e = .returned (.int .i64 6) ∧ Ext (W.alloc (.cells #[.int .i64 5, .int .i64 3] 3)) w') := fun W => sumLit 5 3 (by omega) (by omega) W
  have H3 : Hid (∀ W, Calls Try.prog 6 #[.iface 35 (.agg #[.iface 26 (.agg #[.int .i64 2]), .iface 29 (.agg #[])]), .agg #[.int .i64 5, .string ⟨#[3]⟩], .int .i64 1000] W fun e w' => e = .returned (.tuple #[.agg #[.int .i64 4, .string ⟨#[3]⟩], .int .i64 0]) ∧ Ext W w') := fun W => by
    have h := bothW (q := 2) (by omega) (most := 1000) (by omega) (by omega) (s := (5, [3])) (uP_of (by omega) (by decide)) W
    have e : winF 2 (pN 2 (5, [3])) = some (4, [3]) := by decide +kernel
    rw [e] at h
    exact h
  obtain ⟨N, hN1, hN2⟩ : ∃ N : Nat, N < 10 ∧ (wrap64 (a.tmod 10 + 10)).tmod 10 = (N : Int) := tmod_bd a (m := 10) (by omega) (by omega)
  obtain ⟨M, hM1, hM2⟩ : ∃ N : Nat, N < 5 ∧ (wrap64 (b.tmod 5 + 5)).tmod 5 = (N : Int) := tmod_bd b (m := 5) (by omega) (by omega)
  obtain ⟨K, hK1, hK2⟩ : ∃ N : Nat, N < 8 ∧ (wrap64 (c.tmod 8 + 8)).tmod 8 = (N : Int) := tmod_bd c (m := 8) (by omega) (by omega)
  have hKS : [K] ∈ uS := (by decide : ∀ k < 8, [k] ∈ uS) K hK1
  have hsP := uP_of hN1 hKS
  have HV : Hid (∀ W, Calls Try.prog 7 #[.iface 35 (.agg #[.iface 26 (.agg #[.int .i64 (M : Int)]), .iface 29 (.agg #[])]), .agg #[.int .i64 (N : Int), .string (bys [K])], .int .i64 5000] W fun e w' => e = .returned (.tuple #[.int .i64 (vP M (N, [K]) : Nat), .int .i64 0]) ∧ Ext W w') := fun W => bothVal hM1 (most := 5000) (by omega) (by omega) hsP W
  have HA : Hid (∀ W, Calls Try.prog 4 #[.iface 26 (.agg #[.int .i64 (M : Int)]), .int .i64 (N : Int), .int .i64 5000] W fun e w' => e = .returned (.tuple #[.int .i64 (vH M N : Nat), .int .i64 0]) ∧ Ext W w') := fun W => heapV hM1 (most := 5000) (by omega) (by omega) hN1 W
  have HB : Hid (∀ W, Calls Try.prog 8 #[.iface 29 (.agg #[]), .string (bys [K]), .int .i64 5000] W fun e w' => e = .returned (.tuple #[.int .i64 (vS [K] : Nat), .int .i64 0]) ∧ Ext W w') := fun W => splitV (most := 5000) (by omega) (by omega) hKS W
  have HW : Hid (∀ (s : Nat × List Nat), s ∈ uP → ∀ W, Calls Try.prog 6 #[.iface 35 (.agg #[.iface 26 (.agg #[.int .i64 (M : Int)]), .iface 29 (.agg #[])]), .agg #[.int .i64 (s.1 : Int), .string (bys s.2)], .int .i64 5000] W fun e w' => e = .returned (winV (winF M (pN M s))) ∧ Ext W w') := fun s hs W => bothW hM1 (most := 5000) (by omega) (by omega) hs W
  have hvlt := vP_lt hM1 hsP
  have hvh : vH M N < 16 := by have := vH_lt hM1 hN1; omega
  have hvs : vS [K] < 16 := by have := (uS_ok _ hKS).2.2.2.2; omega
  have hvp : vP M (N, [K]) = vH M N ^^^ vS [K] := rfl
  have HSUM : Hid (∀ W : World, Calls Try.prog 5 #[.slice (some ⟨W.heap.size, 0, none⟩) 2 2] (W.alloc (.cells #[.int .i64 (vH M N : Nat), .int .i64 (vS [K] : Nat)] 3)) fun e w' => e = .returned (.int .i64 (vP M (N, [K]) : Nat)) ∧ Ext (W.alloc (.cells #[.int .i64 (vH M N : Nat), .int .i64 (vS [K] : Nat)] 3)) w') := fun W => by rw [hvp]; exact sumLit _ _ hvh hvs W
  have HNONE : Hid (winF M (pN M (N, [K])) = none → vP M (N, [K]) = 0) := fun h => win_none hM1 hsP h
  have HSOME : Hid (∀ t, winF M (pN M (N, [K])) = some t → vP M (N, [K]) ≠ 0 ∧ t ∈ uP ∧ winF M (pN M t) = none) := fun t h => win_some hM1 hsP h
  have HWP := Lib.hid (HW.out _ hsP)
  obtain ⟨SB, hSB⟩ : ∃ SB, bys [K] = SB := ⟨_, rfl⟩
  have HSB := Lib.hid hSB
  dsimp only at HWP
  rw [hSB] at HV HB HWP
  obtain ⟨F, hF⟩ : ∃ F, winF M (pN M (N, [K])) = F := ⟨_, rfl⟩
  rw [hF] at HWP HNONE HSOME
  obtain ⟨VV, hVV⟩ : ∃ V, vP M (N, [K]) = V := ⟨_, rfl⟩
  rw [hVV] at HV HSUM HNONE HSOME
  obtain ⟨VA, hVA⟩ : ∃ V, vH M N = V := ⟨_, rfl⟩
  obtain ⟨VB, hVB⟩ : ∃ V, vS [K] = V := ⟨_, rfl⟩
  rw [hVA] at HA HSUM
  rw [hVB] at HB HSUM
  have d1 : IntKind.u8.wrap (K : Int) = (K : Int) := by rw [IntKind.wrap_u8]; omega
  have HK : Hid (K < 256) := by show _ < _; omega
  clear hvlt hvh hvs hvp hKS hsP hSB hF hVV hVA hVB hM1 hN1 hK1 ha ha2 hb hb2 hc hc2
  go_enter Try.func3, Try.ntmps3
  go_wp2_with fail
  refine (H1.out _).mono ?_
  rintro e w1 ⟨rfl, X1⟩
  go_wp2_with fail
  refine (H2.out _).mono ?_
  rintro e w2 ⟨rfl, X2⟩
  have Y2 := Lib.hid (X1.trans (((Ext.refl w1).alloc _).trans X2))
  clear X1 X2
  obtain ⟨T9, hT9⟩ : ∃ T9, w2.heap.size = T9 := ⟨_, rfl⟩
  obtain ⟨W3, hW3⟩ : ∃ W3, w2.alloc (.cells #[.iface 26 (.agg #[.int .i64 2]), .iface 29 (.agg #[])] 35) = W3 := ⟨_, rfl⟩
  have X3 : Ext w2 W3 := by rw [← hW3]; exact (Ext.refl w2).alloc _
  have y0 : W3.cell? ⟨T9, 0, none⟩ = some (.iface 26 (.agg #[.int .i64 2])) := by rw [← hW3, ← hT9]; simp [go_sem]
  have y1 : W3.cell? ⟨T9, 1, none⟩ = some (.iface 29 (.agg #[])) := by rw [← hW3, ← hT9]; simp [go_sem]
  have f0 : W3.frozen? ⟨T9, 0, none⟩ = false := by rw [← hW3, ← hT9]; simp [go_sem]
  have hT3 : T9 < W3.heap.size := World.block_lt_of_cell? _ _ y0
  have Y3 := Lib.hid (Y2.out.trans X3)
  have HT9W : Hid (w.heap.size ≤ T9) := by show _ ≤ _; rw [← hT9]; exact Y2.out.size
  clear X3
  go_wp2_with fail
  refine (H3.out _).mono ?_
  rintro e w4 ⟨rfl, X4⟩
  have z0 := X4.cell y0
  have z1 := X4.cell y1
  have g0 := (frozen_extT X4 hT3).trans f0
  have hT4 := Nat.lt_of_lt_of_le hT3 X4.size
  have Y4 := Lib.hid (Y3.out.trans X4)
  clear hW3 hT9 y0 y1 f0 hT3 X4
  obtain ⟨T8, hT8⟩ : ∃ T8, w4.heap.size = T8 := ⟨_, rfl⟩
  obtain ⟨W5, hW5⟩ : ∃ W5, w4.alloc (.cells #[.int .i64 4, .string ⟨#[3]⟩] 37) = W5 := ⟨_, rfl⟩
  have X5 : Ext w4 W5 := by rw [← hW5]; exact (Ext.refl w4).alloc _
  have k0 : W5.cell? ⟨T8, 0, none⟩ = some (.int .i64 4) := by rw [← hW5, ← hT8]; simp [go_sem]
  have k1 : W5.cell? ⟨T8, 1, none⟩ = some (.string ⟨#[3]⟩) := by rw [← hW5, ← hT8]; simp [go_sem]
  have heq : ∀ W, (Op.equalIn 10000 37 (.agg #[.int .i64 4, .string ⟨#[3]⟩]) (.agg #[.int .i64 4, .string ⟨#[3]⟩])).run Try.prog W = .ok true W := fun W => by rw [eq_state]; simp
  go_upto_region 9 with fail
  have q0 := X5.cell z0
  have q1 := X5.cell z1
  have m0 := (frozen_extT X5 hT4).trans g0
  have hT5 := Nat.lt_of_lt_of_le hT4 X5.size
  have Y5 := Lib.hid (Y4.out.trans X5)
  clear hW5 hT8 z0 z1 g0 hT4 X5 k0 k1 heq
  obtain ⟨W6, hW6⟩ : ∃ W6, W5.setCell ⟨T9, 0, none⟩ (.iface 26 (.agg #[.int .i64 (M : Int)])) = W6 := ⟨_, rfl⟩
  have r0 : W6.cell? ⟨T9, 0, none⟩ = some (.iface 26 (.agg #[.int .i64 (M : Int)])) := by rw [← hW6]; exact World.cell?_setCell_same _ _ _ q0
  have r1 : W6.cell? ⟨T9, 1, none⟩ = some (.iface 29 (.agg #[])) := by rw [← hW6]; exact (World.cell?_setCell_other _ _ _ _ (by simp)).trans q1
  have Y6 : Ext w W6 := by rw [← hW6]; exact Y5.out.setCell HT9W.out _
  have HY6 := Lib.hid Y6
  go_upto_region 10 with fail
  obtain ⟨T7, hT7⟩ : ∃ T7, W6.heap.size = T7 := ⟨_, rfl⟩
  obtain ⟨W7, hW7⟩ : ∃ W7, W6.alloc (.cells #[.int .u8 (K : Int)] 5) = W7 := ⟨_, rfl⟩
  have X7 : Ext W6 W7 := by rw [← hW7]; exact (Ext.refl W6).alloc _
  have hback : (convert 40 9 (.slice (some ⟨T7, 0, none⟩) 1 1)).run Try.prog W7 = .ok (.string SB) W7 := by
    have hr : RowOf encU W7 (.slice (some ⟨T7, 0, none⟩) 1 1) [K] := by
      have h := own_lit1 W6 (.int .u8 (K : Int)) 5
      rw [hW7, hT7] at h
      exact own_rowOf (xs := [K]) h (by omega)
    obtain ⟨b9, o9, c9, e9, h9⟩ := row_back hr (by simp) (by intro x hx; rw [List.mem_singleton.1 hx]; exact HK.out)
    rw [← HSB.out]
    exact h9
  have s0 := X7.cell r0
  have s1 := X7.cell r1
  go_upto_region 11 with fail
  have Y7 := Lib.hid (HY6.out.trans X7)
  obtain ⟨T10, hT10⟩ : ∃ T10, W7.heap.size = T10 := ⟨_, rfl⟩
  obtain ⟨W8, hW8⟩ : ∃ W8, W7.alloc (.cells #[.int .i64 (N : Int), .string SB] 37) = W8 := ⟨_, rfl⟩
  have X8 : Ext W7 W8 := by rw [← hW8]; exact (Ext.refl W7).alloc _
  have p0 : W8.cell? ⟨T10, 0, none⟩ = some (.int .i64 (N : Int)) := by rw [← hW8, ← hT10]; simp [go_sem]
  have p1 : W8.cell? ⟨T10, 1, none⟩ = some (.string SB) := by rw [← hW8, ← hT10]; simp [go_sem]
  have v0 := X8.cell s0
  have v1 := X8.cell s1
  have Y8 := Lib.hid (Y7.out.trans X8)
  clear hback hT7 hW7 hW6 r0 r1 q0 q1 m0 hT5 Y6 s0 s1 X7 X8
  go_wp2_with fail
  refine (HV.out _).mono ?_
  rintro e w9 ⟨rfl, X9⟩
  have p0 := X9.cell p0
  have p1 := X9.cell p1
  have v0 := X9.cell v0
  have v1 := X9.cell v1
  have Y9 := Lib.hid (Y8.out.trans X9)
  clear hW8 X9
  go_wp2_with fail
  refine (HA.out _).mono ?_
  rintro e w10 ⟨rfl, X10⟩
  have p0 := X10.cell p0
  have p1 := X10.cell p1
  have v0 := X10.cell v0
  have v1 := X10.cell v1
  have Y10 := Lib.hid (Y9.out.trans X10)
  clear X10
  go_wp2_with fail
  refine (HB.out _).mono ?_
  rintro e w11 ⟨rfl, X11⟩
  have p0 := X11.cell p0
  have p1 := X11.cell p1
  have v0 := X11.cell v0
  have v1 := X11.cell v1
  have Y11 := Lib.hid (Y10.out.trans X11)
  clear X11
  go_wp2_with fail
  cases F with
  | none =>
    have hv := HNONE.out rfl
    subst hv
    refine (HWP.out _).mono ?_
    rintro e w12 ⟨rfl, X12⟩
    unfold winV
    have Y12 := Lib.hid (Y11.out.trans X12)
    clear X12 p0 p1 v0 v1
    go_wp2_with fail
    have hbf := HBF.out (w12.alloc (.cells #[.int .i64 0, .string ⟨#[]⟩] 37))
    rw [show (w12.alloc (.cells #[.int .i64 0, .string ⟨#[]⟩] 37)).heap.size = w12.heap.size + 1 from by simp] at hbf
    refine hbf.mono ?_
    rintro e w13 ⟨rfl, X13⟩
    have Y13 := Lib.hid (Y12.out.trans ((((Ext.refl w12).alloc _).alloc _).trans X13))
    clear X13 hbf
    go_wp2_with fail
    refine (HSUM.out _).mono ?_
    rintro e w14 ⟨rfl, X14⟩
    have Y14 := Lib.hid (Y13.out.trans (((Ext.refl w13).alloc _).trans X14))
    clear X14
    go_wp2_with fail
    go_ret
    exact ⟨rfl, Y14.out⟩
  | some t =>
    obtain ⟨hv0, ht, hn⟩ := HSOME.out t rfl
    have hwt := Lib.hid (fun W => (HW.out t ht W))
    rw [hn] at hwt
    unfold winV at hwt HWP
    unfold encQ at HWP
    have hvb : ((VV : Int) != 0) = true := by rw [bne_iff_ne]; omega
    clear hv0 ht hn
    refine (HWP.out _).mono ?_
    rintro e w12 ⟨rfl, X12⟩
    have Y12 := Lib.hid (Y11.out.trans X12)
    have v0 := X12.cell v0
    have v1 := X12.cell v1
    clear X12 p0 p1
    obtain ⟨T12, hT12⟩ : ∃ T12, w12.heap.size = T12 := ⟨_, rfl⟩
    obtain ⟨W13, hW13⟩ : ∃ W13, w12.alloc (.cells #[.int .i64 (t.1 : Int), .string (bys t.2)] 37) = W13 := ⟨_, rfl⟩
    have X13 : Ext w12 W13 := by rw [← hW13]; exact (Ext.refl w12).alloc _
    have p0 : W13.cell? ⟨T12, 0, none⟩ = some (.int .i64 (t.1 : Int)) := by rw [← hW13, ← hT12]; simp [go_sem]
    have p1 : W13.cell? ⟨T12, 1, none⟩ = some (.string (bys t.2)) := by rw [← hW13, ← hT12]; simp [go_sem]
    have v0 := X13.cell v0
    have v1 := X13.cell v1
    have Y13 := Lib.hid (Y12.out.trans X13)
    clear X13
    go_wp2_with fail
    refine (HBF.out _).mono ?_
    rintro e w14 ⟨rfl, X14⟩
    have p0 := X14.cell (((Ext.refl W13).alloc _).cell p0)
    have p1 := X14.cell (((Ext.refl W13).alloc _).cell p1)
    have v0 := X14.cell (((Ext.refl W13).alloc _).cell v0)
    have v1 := X14.cell (((Ext.refl W13).alloc _).cell v1)
    have Y14 := Lib.hid (Y13.out.trans (((Ext.refl W13).alloc _).trans X14))
    clear X14 hW13
    go_wp2_with fail
    refine (HSUM.out _).mono ?_
    rintro e w15 ⟨rfl, X15⟩
    have p0 := X15.cell (((Ext.refl w14).alloc _).cell p0)
    have p1 := X15.cell (((Ext.refl w14).alloc _).cell p1)
    have v0 := X15.cell (((Ext.refl w14).alloc _).cell v0)
    have v1 := X15.cell (((Ext.refl w14).alloc _).cell v1)
    have Y15 := Lib.hid (Y14.out.trans (((Ext.refl w14).alloc _).trans X15))
    clear X15
    go_wp2_with fail
    refine (hwt.out _).mono ?_
    rintro e w16 ⟨rfl, X16⟩
    have Y16 := Lib.hid (Y15.out.trans X16)
    clear X16 p0 p1 v0 v1
    go_wp2_with fail
    go_ret
    exact ⟨rfl, Y16.out.alloc _⟩
end Go.Proofs.Ytnmcljjfepngeaa
