/- the law RegretSums: its walks -/
import Derived.Test.YtmmdfijjpeglgaaGreatDoorRgY
import Derived.Test.YtmmdfijjpeglgaaGreatDoorRgB
namespace Go.Proofs.YtmmdfijjpeglgaaGreatDoor
open Go.RowKit
set_option linter.unusedVariables false

theorem regretFact_tab2 {w : World} (htab : TabPow w) : Hid (∀ W, Ext w W → Calls Tryz.prog 65 #[] W fun e w' => e = .returned (.bool true) ∧ Ext W w') := fun W hx => regretFact_any W (tabPow_ext htab hx)

set_option maxHeartbeats 3200000 in
set_option maxRecDepth 100000 in
theorem regretS_err (ao bo : Option Addr) (c d nr : Nat) (m : List (List ByteArray)) (ps : List (Int × Int)) (w : World) (HV : Hid (Rows Value.string w (.slice ao nr c) m)) (HU : Hid (Prs w (.slice bo ps.length d) ps)) (p : Int) (hp : (p != 0) = true) (hpp : (p == p) = true) (hpq : (p != p) = false)
    (H0 : Hid (∀ W, Ext w W → Calls Tryz.prog 65 #[] W fun e w' => e = .returned (.bool true) ∧ Ext W w'))
    (H1 : Hid (∀ W, Ext w W → Calls Tryz.prog 40 #[.slice ao nr c] W fun e w' => ∃ n, e = .returned (.int .i64 n) ∧ Ext W w'))
    (H2 : Hid (∀ W, Ext w W → Calls Tryz.prog 66 #[.slice ao nr c, .slice bo ps.length d] W fun e w' => e = .returned (.tuple #[.slice none 0 0, .slice none 0 0, .int .i64 p]) ∧ Ext W w'))
    (H3 : Hid (∀ W, Ext w W → Calls Tryz.prog 67 #[.slice ao nr c, .slice bo ps.length d] W fun e w' => e = .returned (.int .i64 p) ∧ Ext W w'))
    (H4 : Hid (∀ W, Ext w W → Calls Tryz.prog 68 #[.slice ao nr c, .slice bo ps.length d] W fun e w' => e = .returned (.int .i64 p) ∧ Ext W w')) :
    Calls Tryz.prog 13 #[.slice ao nr c, .slice bo ps.length d] w fun e w' => e = .returned (.bool true) ∧ Ext w w' := by
  have E0 := Ext.refl w
  go_enter Tryz.func13, Tryz.ntmps13
  go_wp2_with fail
  refine (H0.out _ E0).mono ?_
  rintro e w1 ⟨rfl, X1⟩
  have E1 := E0.trans X1
  clear E0 X1
  go_wp2_with fail
  refine (H1.out _ E1).mono ?_
  rintro e w2 ⟨n, rfl, X2⟩
  have E2 := E1.trans X2
  clear E1 X2
  by_cases hn : (6000 : Int) < n
  · go_wp2_with fail
    go_ret
    exact ⟨rfl, E2⟩
  go_wp2_with fail
  refine (H2.out _ E2).mono ?_
  rintro e w3 ⟨rfl, X3⟩
  have E3 := E2.trans X3
  clear E2 X3
  go_wp2_with fail
  refine (H3.out _ E3).mono ?_
  rintro e w4 ⟨rfl, X4⟩
  have E4 := E3.trans X4
  clear E3 X4
  go_wp2_with fail
  refine (H4.out _ E4).mono ?_
  rintro e w5 ⟨rfl, X5⟩
  have E5 := E4.trans X5
  clear E4 X5
  go_wp2_with fail
  go_ret
  exact ⟨by first | rfl | simp, E5⟩

set_option maxHeartbeats 3200000 in
set_option maxRecDepth 100000 in
theorem regretS_vast (ao bo : Option Addr) (c d nr : Nat) (m : List (List ByteArray)) (ps : List (Int × Int)) (w : World) (HV : Hid (Rows Value.string w (.slice ao nr c) m)) (HU : Hid (Prs w (.slice bo ps.length d) ps)) (qs rs : List Rat)
    (H0 : Hid (∀ W, Ext w W → Calls Tryz.prog 65 #[] W fun e w' => e = .returned (.bool true) ∧ Ext W w'))
    (H1 : Hid (∀ W, Ext w W → Calls Tryz.prog 40 #[.slice ao nr c] W fun e w' => ∃ n, e = .returned (.int .i64 n) ∧ Ext W w'))
    (H2 : Hid (∀ W, Ext w W → Calls Tryz.prog 66 #[.slice ao nr c, .slice bo ps.length d] W (BothPost qs rs W)))
    (H3 : Hid (∀ W, Ext w W → Calls Tryz.prog 67 #[.slice ao nr c, .slice bo ps.length d] W fun e w' => e = .returned (.int .i64 0) ∧ Ext W w'))
    (H4 : Hid (∀ W, Ext w W → Calls Tryz.prog 68 #[.slice ao nr c, .slice bo ps.length d] W fun e w' => e = .returned (.int .i64 0) ∧ Ext W w'))
    (H5 : Hid (∀ v W, MatsV W v [m] → Calls Tryz.prog 56 #[.int .i64 5, v] W fun e w' => e = .returned (.bool true) ∧ Ext W w')) :
    Calls Tryz.prog 13 #[.slice ao nr c, .slice bo ps.length d] w fun e w' => e = .returned (.bool true) ∧ Ext w w' := by
  have E0 := Ext.refl w
  go_enter Tryz.func13, Tryz.ntmps13
  go_wp2_with fail
  refine (H0.out _ E0).mono ?_
  rintro e w1 ⟨rfl, X1⟩
  have E1 := E0.trans X1
  clear E0 X1
  go_wp2_with fail
  refine (H1.out _ E1).mono ?_
  rintro e w2 ⟨n, rfl, X2⟩
  have E2 := E1.trans X2
  clear E1 X2
  by_cases hn : (6000 : Int) < n
  · go_wp2_with fail
    go_ret
    exact ⟨rfl, E2⟩
  go_wp2_with fail
  refine (H2.out _ E2).mono ?_
  intro e w3 h3
  unfold BothPost at h3
  obtain ⟨X3, h3⟩ := h3
  have E3 := E2.trans X3
  clear E2 X3
  rcases h3 with ⟨os, os2, u1, u2, _, _, rfl, hst1, hst2⟩ | ⟨_, rfl⟩
  · obtain ⟨ao1, c1, rfl, _, _⟩ := hst1.open
    obtain ⟨ao2, c2, rfl, _, _⟩ := hst2.open
    clear hst1 hst2
    go_wp2_with fail
    refine (H3.out _ E3).mono ?_
    rintro e w4 ⟨rfl, X4⟩
    have E4 := E3.trans X4
    clear E3 X4
    go_wp2_with fail
    refine (H4.out _ E4).mono ?_
    rintro e w5 ⟨rfl, X5⟩
    have E5 := E4.trans X5
    clear E4 X5
    go_wp2_with fail
    refine (H5.out _ _ (by exact lit_mats1 _ _ (HV.out.ext E5) _ (by first | rfl | simp))).mono ?_
    rintro e w6 ⟨rfl, X6⟩
    have E6 := Ext.trans (by repeat' (first | with_reducible exact E5 | with_reducible apply Ext.alloc)) X6
    clear E5 X6
    go_wp2_with fail
    go_ret
    exact ⟨by first | rfl | simp, E6⟩
  · go_wp2_with fail
    refine (H3.out _ E3).mono ?_
    rintro e w4 ⟨rfl, X4⟩
    have E4 := E3.trans X4
    clear E3 X4
    go_wp2_with fail
    refine (H4.out _ E4).mono ?_
    rintro e w5 ⟨rfl, X5⟩
    have E5 := E4.trans X5
    clear E4 X5
    go_wp2_with fail
    refine (H5.out _ _ (by exact lit_mats1 _ _ (HV.out.ext E5) _ (by first | rfl | simp))).mono ?_
    rintro e w6 ⟨rfl, X6⟩
    have E6 := Ext.trans (by repeat' (first | with_reducible exact E5 | with_reducible apply Ext.alloc)) X6
    clear E5 X6
    go_wp2_with fail
    go_ret
    exact ⟨by first | rfl | simp, E6⟩

set_option maxHeartbeats 3200000 in
set_option maxRecDepth 100000 in
theorem regretS_long (ao bo : Option Addr) (c d nr : Nat) (m : List (List ByteArray)) (ps : List (Int × Int)) (w : World) (HV : Hid (Rows Value.string w (.slice ao nr c) m)) (HU : Hid (Prs w (.slice bo ps.length d) ps)) (qs rs : List Rat) (hli : (30 : Int) < (ps.length : Int))
    (H0 : Hid (∀ W, Ext w W → Calls Tryz.prog 65 #[] W fun e w' => e = .returned (.bool true) ∧ Ext W w'))
    (H1 : Hid (∀ W, Ext w W → Calls Tryz.prog 40 #[.slice ao nr c] W fun e w' => ∃ n, e = .returned (.int .i64 n) ∧ Ext W w'))
    (H2 : Hid (∀ W, Ext w W → Calls Tryz.prog 66 #[.slice ao nr c, .slice bo ps.length d] W (BothPost qs rs W)))
    (H3 : Hid (∀ W, Ext w W → Calls Tryz.prog 67 #[.slice ao nr c, .slice bo ps.length d] W fun e w' => e = .returned (.int .i64 0) ∧ Ext W w'))
    (H4 : Hid (∀ W, Ext w W → Calls Tryz.prog 68 #[.slice ao nr c, .slice bo ps.length d] W fun e w' => e = .returned (.int .i64 0) ∧ Ext W w'))
    (H5 : Hid (∀ v W, MatsV W v [m] → Calls Tryz.prog 56 #[.int .i64 5, v] W fun e w' => e = .returned (.bool false) ∧ Ext W w')) :
    Calls Tryz.prog 13 #[.slice ao nr c, .slice bo ps.length d] w fun e w' => e = .returned (.bool true) ∧ Ext w w' := by
  have E0 := Ext.refl w
  go_enter Tryz.func13, Tryz.ntmps13
  go_wp2_with fail
  refine (H0.out _ E0).mono ?_
  rintro e w1 ⟨rfl, X1⟩
  have E1 := E0.trans X1
  clear E0 X1
  go_wp2_with fail
  refine (H1.out _ E1).mono ?_
  rintro e w2 ⟨n, rfl, X2⟩
  have E2 := E1.trans X2
  clear E1 X2
  by_cases hn : (6000 : Int) < n
  · go_wp2_with fail
    go_ret
    exact ⟨rfl, E2⟩
  go_wp2_with fail
  refine (H2.out _ E2).mono ?_
  intro e w3 h3
  unfold BothPost at h3
  obtain ⟨X3, h3⟩ := h3
  have E3 := E2.trans X3
  clear E2 X3
  rcases h3 with ⟨os, os2, u1, u2, _, _, rfl, hst1, hst2⟩ | ⟨_, rfl⟩
  · obtain ⟨ao1, c1, rfl, _, _⟩ := hst1.open
    obtain ⟨ao2, c2, rfl, _, _⟩ := hst2.open
    clear hst1 hst2
    go_wp2_with fail
    refine (H3.out _ E3).mono ?_
    rintro e w4 ⟨rfl, X4⟩
    have E4 := E3.trans X4
    clear E3 X4
    go_wp2_with fail
    refine (H4.out _ E4).mono ?_
    rintro e w5 ⟨rfl, X5⟩
    have E5 := E4.trans X5
    clear E4 X5
    go_wp2_with fail
    refine (H5.out _ _ (by exact lit_mats1 _ _ (HV.out.ext E5) _ (by first | rfl | simp))).mono ?_
    rintro e w6 ⟨rfl, X6⟩
    have E6 := Ext.trans (by repeat' (first | with_reducible exact E5 | with_reducible apply Ext.alloc)) X6
    clear E5 X6
    go_wp2_with fail
    go_ret
    exact ⟨by first | rfl | simp, E6⟩
  · go_wp2_with fail
    refine (H3.out _ E3).mono ?_
    rintro e w4 ⟨rfl, X4⟩
    have E4 := E3.trans X4
    clear E3 X4
    go_wp2_with fail
    refine (H4.out _ E4).mono ?_
    rintro e w5 ⟨rfl, X5⟩
    have E5 := E4.trans X5
    clear E4 X5
    go_wp2_with fail
    refine (H5.out _ _ (by exact lit_mats1 _ _ (HV.out.ext E5) _ (by first | rfl | simp))).mono ?_
    rintro e w6 ⟨rfl, X6⟩
    have E6 := Ext.trans (by repeat' (first | with_reducible exact E5 | with_reducible apply Ext.alloc)) X6
    clear E5 X6
    go_wp2_with fail
    go_ret
    exact ⟨by first | rfl | simp, E6⟩

set_option maxHeartbeats 6400000 in
set_option maxRecDepth 100000 in
theorem regretS_full (b0 o0 : Nat) (a0 bo : Option Addr) (c d nr nc c0 : Nat) (m : List (List ByteArray)) (ps : List (Int × Int)) (w : World) (HV : Hid (Rows Value.string w (.slice (some ⟨b0, o0, none⟩) nr c) m)) (HU : Hid (Prs w (.slice bo ps.length d) ps)) (hli : (ps.length : Int) ≤ 30) (hnr : (0 : Int) < (nr : Int)) (hnr2 : (nr : Int) ≤ 1000) (hnc2 : (nc : Int) ≤ 1000) (f1 f2 : Nat → Int × Int → Rat) (os1 os2 : List ByteArray) (HOL1 : Hid (os1.length = nr)) (HOL2 : Hid (os2.length = nc))
    (HC0 : Hid (∀ W, Ext w W → W.cell? ⟨b0, o0, none⟩ = some (.slice a0 nc c0))) (HBAD : Hid (∀ p ∈ ps, badP nr nc p = false))
    (HM1 : Hid (∀ W i x y, Ext w W → i < nr → x < nr → y < nc → ∃ bbx obx cx lx sx bbi obi ci li si, m[x]? = some lx ∧ lx[y]? = some sx ∧ m[i]? = some li ∧ li[y]? = some si ∧
      W.cell? ⟨b0, o0 + x, none⟩ = some (.slice (some ⟨bbx, obx, none⟩) lx.length cx) ∧ W.cell? ⟨bbx, obx + y, none⟩ = some (.string sx) ∧ W.cell? ⟨b0, o0 + i, none⟩ = some (.slice (some ⟨bbi, obi, none⟩) li.length ci) ∧ W.cell? ⟨bbi, obi + y, none⟩ = some (.string si)))
    (HM2 : Hid (∀ W x y k, Ext w W → x < nr → y < nc → k < nc → ∃ bbx obx cx lx sx sk, m[x]? = some lx ∧ lx[y]? = some sx ∧ lx[k]? = some sk ∧
      W.cell? ⟨b0, o0 + x, none⟩ = some (.slice (some ⟨bbx, obx, none⟩) lx.length cx) ∧ W.cell? ⟨bbx, obx + y, none⟩ = some (.string sx) ∧ W.cell? ⟨bbx, obx + k, none⟩ = some (.string sk)))
    (HF1 : Hid (∀ (i x y : Nat) lx li sx si, m[x]? = some lx → m[i]? = some li → lx[y]? = some sx → li[y]? = some si → f1 i ((x : Int), (y : Int)) = ratOf si - ratOf sx))
    (HF2 : Hid (∀ (k x y : Nat) lx sx sk, m[x]? = some lx → lx[y]? = some sx → lx[k]? = some sk → f2 k ((x : Int), (y : Int)) = ratOf sx - ratOf sk))
    (HOS1 : Hid (∀ i, i < nr → os1[i]? = some (ratT (sumP (f1 i) ps 0)))) (HOS2 : Hid (∀ i, i < nc → os2[i]? = some (ratT (sumP (f2 i) ps 0))))
    (H0 : Hid (∀ W, Ext w W → Calls Tryz.prog 65 #[] W fun e w' => e = .returned (.bool true) ∧ Ext W w'))
    (H1 : Hid (∀ W, Ext w W → Calls Tryz.prog 40 #[.slice (some ⟨b0, o0, none⟩) nr c] W fun e w' => ∃ n, e = .returned (.int .i64 n) ∧ Ext W w'))
    (H2 : Hid (∀ W, Ext w W → Calls Tryz.prog 66 #[.slice (some ⟨b0, o0, none⟩) nr c, .slice bo ps.length d] W fun e w' => ∃ u1 u2, e = .returned (.tuple #[u1, u2, .int .i64 0]) ∧ Strs w' u1 os1 ∧ Strs w' u2 os2 ∧ Ext W w'))
    (H3 : Hid (∀ W, Ext w W → Calls Tryz.prog 67 #[.slice (some ⟨b0, o0, none⟩) nr c, .slice bo ps.length d] W fun e w' => e = .returned (.int .i64 0) ∧ Ext W w'))
    (H4 : Hid (∀ W, Ext w W → Calls Tryz.prog 68 #[.slice (some ⟨b0, o0, none⟩) nr c, .slice bo ps.length d] W fun e w' => e = .returned (.int .i64 0) ∧ Ext W w'))
    (H5 : Hid (∀ v W, MatsV W v [m] → Calls Tryz.prog 56 #[.int .i64 5, v] W fun e w' => e = .returned (.bool false) ∧ Ext W w'))
    (HSUB : Hid (∀ s t W, (∃ l ∈ m, s ∈ l) → (∃ l ∈ m, t ∈ l) → Calls Tryz.prog 28 #[.string s, .string t] W fun e w' => e = .returned (.string (ratT (ratOf s - ratOf t))) ∧ Ext W w'))
    (HSRB : Hid (∀ s t, (∃ l ∈ m, s ∈ l) → (∃ l ∈ m, t ∈ l) → RB 25 (ratOf s - ratOf t)))
    (HADD : Hid (∀ (a q : Rat) (k : Nat) W, RB k a → k ≤ 10000 → RB 25 q → Calls Tryz.prog 27 #[.string (ratT a), .string (ratT q)] W fun e w' => e = .returned (.string (ratT (a + q))) ∧ Ext W w')) :
    Calls Tryz.prog 13 #[.slice (some ⟨b0, o0, none⟩) nr c, .slice bo ps.length d] w fun e w' => e = .returned (.bool true) ∧ Ext w w' := by
  have E0 := Ext.refl w
  go_enter Tryz.func13, Tryz.ntmps13
  go_wp2_with fail
  refine (H0.out _ E0).mono ?_
  rintro e w1 ⟨rfl, X1⟩
  have E1 := E0.trans X1
  clear E0 X1
  go_wp2_with fail
  refine (H1.out _ E1).mono ?_
  rintro e w2 ⟨n, rfl, X2⟩
  have E2 := E1.trans X2
  clear E1 X2
  by_cases hn : (6000 : Int) < n
  · go_wp2_with fail
    go_ret
    exact ⟨rfl, E2⟩
  go_wp2_with fail
  refine (H2.out _ E2).mono ?_
  rintro e w3 ⟨u1, u2, rfl, hst1, hst2, X3⟩
  have E3 := E2.trans X3
  clear E2 X3
  obtain ⟨ao1, c1, rfl, _, hc1⟩ := hst1.open
  obtain ⟨ao2, c2, rfl, _, hc2⟩ := hst2.open
  have HO1 : Hid (∀ W i, Ext w3 W → i < nr → ∃ b o, ao1 = some ⟨b, o, none⟩ ∧ W.cell? ⟨b, o + i, none⟩ = some (.string (ratT (sumP (f1 i) ps 0)))) := fun W i hx hi => hc1.ext hx i _ (by rw [List.getElem?_map, HOS1.out i hi]; rfl)
  have HO2 : Hid (∀ W i, Ext w3 W → i < nc → ∃ b o, ao2 = some ⟨b, o, none⟩ ∧ W.cell? ⟨b, o + i, none⟩ = some (.string (ratT (sumP (f2 i) ps 0)))) := fun W i hx hi => hc2.ext hx i _ (by rw [List.getElem?_map, HOS2.out i hi]; rfl)
  rw [HOL1.out, HOL2.out]
  clear hst1 hst2 hc1 hc2 HOS1 HOS2
  go_wp2_with fail
  refine (H3.out _ E3).mono ?_
  rintro e w4 ⟨rfl, X4⟩
  have E4 := E3.trans X4
  go_wp2_with fail
  refine (H4.out _ E4).mono ?_
  rintro e w5 ⟨rfl, X5⟩
  have E5 := E4.trans X5
  go_wp2_with fail
  refine (H5.out _ _ (by exact lit_mats1 _ _ (HV.out.ext E5) _ (by first | rfl | simp))).mono ?_
  rintro e w6 ⟨rfl, X6⟩
  have X56 : Ext w5 w6 := Ext.trans (by repeat' (first | with_reducible exact Ext.refl _ | with_reducible apply Ext.alloc)) X6
  have E6 := E5.trans X56
  have E36 := (X4.trans X5).trans X56
  have HO1 : Hid (∀ W i, Ext w6 W → i < nr → ∃ b o, ao1 = some ⟨b, o, none⟩ ∧ W.cell? ⟨b, o + i, none⟩ = some (.string (ratT (sumP (f1 i) ps 0)))) := fun W i hx => HO1.out W i (E36.trans hx)
  have HO2 : Hid (∀ W i, Ext w6 W → i < nc → ∃ b o, ao2 = some ⟨b, o, none⟩ ∧ W.cell? ⟨b, o + i, none⟩ = some (.string (ratT (sumP (f2 i) ps 0)))) := fun W i hx => HO2.out W i (E36.trans hx)
  have HM1 := Lib.hid (fun W i x y (hx : Ext w6 W) => HM1.out W i x y (E6.trans hx))
  have HM2 := Lib.hid (fun W x y k (hx : Ext w6 W) => HM2.out W x y k (E6.trans hx))
  have hc00 := HC0.out _ E6
  obtain ⟨bo', d', eu, _, hpc⟩ := HU.out.ext E6
  simp only [Value.slice.injEq, true_and] at eu
  obtain ⟨rfl, rfl⟩ := eu
  have HPC := Lib.hid hpc
  obtain ⟨wo, rfl⟩ : ∃ wo : World, wo = w6 := ⟨_, rfl⟩
  clear E3 X4 E4 X5 E5 X6 X56 E36 HV HU HC0 H0 H1 H2 H3 H4 H5 hpc HOL1 HOL2
  have XS := Ext.refl wo
  go_wp2_with fail
  go_loopw [78] (fun iv wr => ∃ (i : Nat), i ≤ nr ∧ iv = .int .i64 i ∧ Ext wo wr) (fun iv _ => nr - (intOf iv).toNat)
  case atStart => exact ⟨0, Nat.zero_le _, rfl, XS⟩
  case round =>
    clear XS
    obtain ⟨i, hi, rfl, X⟩ := hrel
    by_cases hlt : i < nr
    · have hki : (i : Int) < (nr : Int) := by omega
      obtain ⟨wi, rfl⟩ : ∃ wi : World, wi = wr := ⟨_, rfl⟩
      go_wp2_with fail
      go_loopw [10, 83] (fun sv jv wr => ∃ (j : Nat) (acc : Rat), j ≤ ps.length ∧ jv = .int .i64 j ∧ sv = .string (ratT acc) ∧ Hid (RB (1 + 26 * j) acc) ∧ Hid (sumP (f1 i) (ps.drop j) acc = sumP (f1 i) ps 0) ∧ Ext wo wr) (fun _ jv _ => ps.length - (intOf jv).toNat)
      case atStart => exact ⟨0, 0, Nat.zero_le _, rfl, by rw [ratT_zero], RB_zero, by show _ = _; rw [List.drop_zero], X⟩
      case round =>
        clear X
        obtain ⟨j, acc, hj, rfl, rfl, HR, HI, X⟩ := hrel
        by_cases hlt2 : j < ps.length
        · obtain ⟨p, d1, d2, _⟩ := get_lt hlt2
          obtain ⟨b2, off2, rfl, q0, q1⟩ := HPC.out.ext X j p d1.out
          have hbp := HBAD.out p (List.mem_of_getElem? d1.out)
          have hi2 := HI.out
          rw [d2.out, sumP_cons] at hi2
          obtain ⟨x0, y0⟩ := p
          unfold badP at hbp
          rw [decide_eq_false_iff_not] at hbp
          dsimp only at q0 q1 hbp
          obtain ⟨x, rfl⟩ : ∃ x : Nat, x0 = (x : Int) := ⟨x0.toNat, by omega⟩
          obtain ⟨y, rfl⟩ : ∃ y : Nat, y0 = (y : Int) := ⟨y0.toNat, by omega⟩
          obtain ⟨bbx, obx, cx, lx, sx, bbi, obi, ci, li, si, hmx, hsx, hmi, hsi, hcx, hlx, hci, hli⟩ := HM1.out wr i x y X hlt (by omega) (by omega)
          have hf := HF1.out i x y lx li sx si hmx hmi hsx hsi
          have hby : (y : Int) < (lx.length : Int) := by have := (List.getElem?_eq_some_iff.1 hsx).1; omega
          have hbi : (y : Int) < (li.length : Int) := by have := (List.getElem?_eq_some_iff.1 hsi).1; omega
          rw [hf] at hi2
          have HSB := Lib.hid (fun W => HSUB.out si sx W ⟨li, List.mem_of_getElem? hmi, List.mem_of_getElem? hsi⟩ ⟨lx, List.mem_of_getElem? hmx, List.mem_of_getElem? hsx⟩)
          have HBS := HSRB.out si sx ⟨li, List.mem_of_getElem? hmi, List.mem_of_getElem? hsi⟩ ⟨lx, List.mem_of_getElem? hmx, List.mem_of_getElem? hsx⟩
          have HAD := Lib.hid (fun W => HADD.out acc (ratOf si - ratOf sx) (1 + 26 * j) W HR.out (by omega) HBS)
          have HBN : Hid (RB (1 + 26 * (j + 1)) (acc + (ratOf si - ratOf sx))) := by
            show RB _ _
            exact (RB_add HR.out HBS).mono (by omega)
          have HIN := Lib.hid hi2
          have hxn : (x : Int) < (nr : Int) := by omega
          have hkj : (j : Int) < (ps.length : Int) := by omega
          generalize ratOf si - ratOf sx = dq at *
          obtain ⟨T7, hT7⟩ : ∃ T7, wr.heap.size = T7 := ⟨_, rfl⟩
          obtain ⟨W3, hW3⟩ : ∃ W3, wr.alloc (.cells #[.int .i64 (x : Int), .int .i64 (y : Int)] 77) = W3 := ⟨_, rfl⟩
          have XL : Ext wr W3 := by rw [← hW3]; exact (Ext.refl wr).alloc _
          have p1 : W3.cell? ⟨T7, 0, none⟩ = some (.int .i64 (x : Int)) := by rw [← hW3, ← hT7]; simp [go_sem]
          have p2 : W3.cell? ⟨T7, 1, none⟩ = some (.int .i64 (y : Int)) := by rw [← hW3, ← hT7]; simp [go_sem]
          have r0 := XL.cell hcx
          have r1 := XL.cell hlx
          have r2 := XL.cell hci
          have r3 := XL.cell hli
          have X3 := X.trans XL
          clear hf hi2 hbp hmx hmi hsx hsi hcx hlx hci hli HR HI hlt2 XL HBS
          go_wp2_with fail
          clear hT7 hW3 q0 q1
          go_region_held3 (fun w' => w'.cell? ⟨T7, 0, none⟩ = some (.int .i64 (x : Int)) ∧ w'.cell? ⟨T7, 1, none⟩ = some (.int .i64 (y : Int)) ∧ w'.cell? ⟨b0, o0 + x, none⟩ = some (.slice (some ⟨bbx, obx, none⟩) lx.length cx) ∧ w'.cell? ⟨bbx, obx + y, none⟩ = some (.string sx) ∧ w'.cell? ⟨b0, o0 + i, none⟩ = some (.slice (some ⟨bbi, obi, none⟩) li.length ci) ∧ w'.cell? ⟨bbi, obi + y, none⟩ = some (.string si))
            (first | exact ⟨p1, p2, r0, r1, r2, r3⟩ | exact ⟨Xm.cell p1, Xm.cell p2, Xm.cell r0, Xm.cell r1, Xm.cell r2, Xm.cell r3⟩ | exact ⟨Xa.cell p1, Xa.cell p2, Xa.cell r0, Xa.cell r1, Xa.cell r2, Xa.cell r3⟩ | go_keep)
            (first
              | (go_at_call 28; refine (HSB.out _).mono ?_; rintro e wm ⟨rfl, Ym⟩; have Xm : Ext W3 wm := (Ext.refl W3).drew.trans Ym)
              | (go_at_call 27; refine (HAD.out _).mono ?_; rintro e wa ⟨rfl, Ya⟩; have Xa : Ext W3 wa := Xm.trans Ya))
          all_goals
            have XN := X3.trans Xa
            clear p1 p2 r0 r1 r2 r3
            go_wp2_with fail
            go_roundw
            case rel => exact ⟨j + 1, acc + dq, by omega, by go_num, rfl, HBN, HIN, XN⟩
            case measure => simp [intOf] <;> omega
        · have hjl : ps.length = j := by omega
          have hi2 := HI.out
          rw [← hjl, List.drop_length, sumP_nil] at hi2
          obtain ⟨bo2, oo2, rfl, hoc⟩ := HO1.out wr i X hlt
          rw [← hi2] at hoc
          have hbe : ((ratT acc).toList != (ratT acc).toList) = false := by simp
          generalize ratT acc = A at *
          clear hjl hi2 HI HR
          go_wp2_with fail
          go_roundw
          case rel => exact ⟨i + 1, by omega, by go_num, X⟩
          case measure => simp [intOf] <;> omega
    · have XS := X
      clear hi X
      go_wp2_with fail
      go_loopw [117] (fun iv wr => ∃ (i : Nat), i ≤ nc ∧ iv = .int .i64 i ∧ Ext wo wr) (fun iv _ => nc - (intOf iv).toNat)
      case atStart => exact ⟨0, Nat.zero_le _, rfl, XS⟩
      case round =>
        clear XS
        obtain ⟨i, hi, rfl, X⟩ := hrel
        by_cases hlt : i < nc
        · have hki : (i : Int) < (nc : Int) := by omega
          obtain ⟨wi, rfl⟩ : ∃ wi : World, wi = wr := ⟨_, rfl⟩
          go_wp2_with fail
          go_loopw [14, 122] (fun sv jv wr => ∃ (j : Nat) (acc : Rat), j ≤ ps.length ∧ jv = .int .i64 j ∧ sv = .string (ratT acc) ∧ Hid (RB (1 + 26 * j) acc) ∧ Hid (sumP (f2 i) (ps.drop j) acc = sumP (f2 i) ps 0) ∧ Ext wo wr) (fun _ jv _ => ps.length - (intOf jv).toNat)
          case atStart => exact ⟨0, 0, Nat.zero_le _, rfl, by rw [ratT_zero], RB_zero, by show _ = _; rw [List.drop_zero], X⟩
          case round =>
            clear X
            obtain ⟨j, acc, hj, rfl, rfl, HR, HI, X⟩ := hrel
            by_cases hlt2 : j < ps.length
            · obtain ⟨p, d1, d2, _⟩ := get_lt hlt2
              obtain ⟨b2, off2, rfl, q0, q1⟩ := HPC.out.ext X j p d1.out
              have hbp := HBAD.out p (List.mem_of_getElem? d1.out)
              have hi2 := HI.out
              rw [d2.out, sumP_cons] at hi2
              obtain ⟨x0, y0⟩ := p
              unfold badP at hbp
              rw [decide_eq_false_iff_not] at hbp
              dsimp only at q0 q1 hbp
              obtain ⟨x, rfl⟩ : ∃ x : Nat, x0 = (x : Int) := ⟨x0.toNat, by omega⟩
              obtain ⟨y, rfl⟩ : ∃ y : Nat, y0 = (y : Int) := ⟨y0.toNat, by omega⟩
              obtain ⟨bbx, obx, cx, lx, sx, si, hmx, hsx, hsi, hcx, hlx, hli⟩ := HM2.out wr x y i X (by omega) (by omega) hlt
              have hf := HF2.out i x y lx sx si hmx hsx hsi
              have hby : (y : Int) < (lx.length : Int) := by have := (List.getElem?_eq_some_iff.1 hsx).1; omega
              have hbi : (i : Int) < (lx.length : Int) := by have := (List.getElem?_eq_some_iff.1 hsi).1; omega
              rw [hf] at hi2
              have HSB := Lib.hid (fun W => HSUB.out sx si W ⟨lx, List.mem_of_getElem? hmx, List.mem_of_getElem? hsx⟩ ⟨lx, List.mem_of_getElem? hmx, List.mem_of_getElem? hsi⟩)
              have HBS := HSRB.out sx si ⟨lx, List.mem_of_getElem? hmx, List.mem_of_getElem? hsx⟩ ⟨lx, List.mem_of_getElem? hmx, List.mem_of_getElem? hsi⟩
              have HAD := Lib.hid (fun W => HADD.out acc (ratOf sx - ratOf si) (1 + 26 * j) W HR.out (by omega) HBS)
              have HBN : Hid (RB (1 + 26 * (j + 1)) (acc + (ratOf sx - ratOf si))) := by
                show RB _ _
                exact (RB_add HR.out HBS).mono (by omega)
              have HIN := Lib.hid hi2
              have hxn : (x : Int) < (nr : Int) := by omega
              have hkj : (j : Int) < (ps.length : Int) := by omega
              generalize ratOf sx - ratOf si = dq at *
              obtain ⟨T7, hT7⟩ : ∃ T7, wr.heap.size = T7 := ⟨_, rfl⟩
              obtain ⟨W3, hW3⟩ : ∃ W3, wr.alloc (.cells #[.int .i64 (x : Int), .int .i64 (y : Int)] 77) = W3 := ⟨_, rfl⟩
              have XL : Ext wr W3 := by rw [← hW3]; exact (Ext.refl wr).alloc _
              have p1 : W3.cell? ⟨T7, 0, none⟩ = some (.int .i64 (x : Int)) := by rw [← hW3, ← hT7]; simp [go_sem]
              have p2 : W3.cell? ⟨T7, 1, none⟩ = some (.int .i64 (y : Int)) := by rw [← hW3, ← hT7]; simp [go_sem]
              have r0 := XL.cell hcx
              have r1 := XL.cell hlx
              have r3 := XL.cell hli
              have X3 := X.trans XL
              clear hf hi2 hbp hmx hsx hsi hcx hlx hli HR HI hlt2 XL HBS
              go_wp2_with fail
              clear hT7 hW3 q0 q1
              go_region_held3 (fun w' => w'.cell? ⟨T7, 0, none⟩ = some (.int .i64 (x : Int)) ∧ w'.cell? ⟨T7, 1, none⟩ = some (.int .i64 (y : Int)) ∧ w'.cell? ⟨b0, o0 + x, none⟩ = some (.slice (some ⟨bbx, obx, none⟩) lx.length cx) ∧ w'.cell? ⟨bbx, obx + y, none⟩ = some (.string sx) ∧ w'.cell? ⟨bbx, obx + i, none⟩ = some (.string si))
                (first | exact ⟨p1, p2, r0, r1, r3⟩ | exact ⟨Xm.cell p1, Xm.cell p2, Xm.cell r0, Xm.cell r1, Xm.cell r3⟩ | exact ⟨Xa.cell p1, Xa.cell p2, Xa.cell r0, Xa.cell r1, Xa.cell r3⟩ | go_keep)
                (first
                  | (go_at_call 28; refine (HSB.out _).mono ?_; rintro e wm ⟨rfl, Ym⟩; have Xm : Ext W3 wm := (Ext.refl W3).drew.trans Ym)
                  | (go_at_call 27; refine (HAD.out _).mono ?_; rintro e wa ⟨rfl, Ya⟩; have Xa : Ext W3 wa := Xm.trans Ya))
              all_goals
                have XN := X3.trans Xa
                clear p1 p2 r0 r1 r3
                go_wp2_with fail
                go_roundw
                case rel => exact ⟨j + 1, acc + dq, by omega, by go_num, rfl, HBN, HIN, XN⟩
                case measure => simp [intOf] <;> omega
            · have hjl : ps.length = j := by omega
              have hi2 := HI.out
              rw [← hjl, List.drop_length, sumP_nil] at hi2
              obtain ⟨bo2, oo2, rfl, hoc⟩ := HO2.out wr i X hlt
              rw [← hi2] at hoc
              have hbe : ((ratT acc).toList != (ratT acc).toList) = false := by simp
              generalize ratT acc = A at *
              clear hjl hi2 HI HR
              go_wp2_with fail
              go_roundw
              case rel => exact ⟨i + 1, by omega, by go_num, X⟩
              case measure => simp [intOf] <;> omega
        · have XS := X
          clear hi X
          go_wp2_with fail
          go_ret
          exact ⟨by first | rfl | simp, E6.trans XS⟩
end Go.Proofs.YtmmdfijjpeglgaaGreatDoor
