/- walks of package nimsum: Wins, Sum; bFine -/
import Derived.Test.YtnmcljjfepngeaaTsM
namespace Go.Proofs.Ytnmcljjfepngeaa
open Go.RowKit Go.Maps
set_option linter.unusedVariables false

/-- the first state of value 0 that is reached -/
def winF (q : Nat) (l : List (Nat × List Nat)) : Option (Nat × List Nat) := l.find? fun t => vP q t == 0
/-- what Wins returns -/
def winV (o : Option (Nat × List Nat)) : Value := match o with
  | some t => .tuple #[encQ t, .int .i64 0]
  | none => .tuple #[.agg #[.int .i64 0, .string ⟨#[]⟩], .int .i64 8]

/-- two cells that have been set -/
theorem two_set {W : World} {a : Nat} {u v x y : Value} (h0 : W.cell? ⟨a, 0, none⟩ = some x) (h1 : W.cell? ⟨a, 1, none⟩ = some y) : (((W.setCell ⟨a, 0, none⟩ u).setCell ⟨a, 1, none⟩ v).cell? ⟨a, 0, none⟩ = some u) ∧ ((W.setCell ⟨a, 0, none⟩ u).setCell ⟨a, 1, none⟩ v).cell? ⟨a, 1, none⟩ = some v := by
  have e0 : (W.setCell ⟨a, 0, none⟩ u).cell? ⟨a, 0, none⟩ = some u := World.cell?_setCell_same _ _ _ h0
  have e1 : (W.setCell ⟨a, 0, none⟩ u).cell? ⟨a, 1, none⟩ = some y := (World.cell?_setCell_other _ _ _ _ (by simp)).trans h1
  exact ⟨(World.cell?_setCell_other _ _ _ _ (by simp)).trans e0, World.cell?_setCell_same _ _ _ e1⟩
theorem frozen_extT {W W' : World} (h : Ext W W') {p : Addr} (hp : p.block < W.heap.size) : W'.frozen? p = W.frozen? p := Below.frozen h hp

set_option maxHeartbeats 3200000 in
set_option maxRecDepth 100000 in
theorem wins_any (q : Nat) (gm : GmOk (pN q) uP (vP q) rkP) (hd : ∀ s ∈ uP, domQ s) (hnext : ∀ s ∈ uP, ∀ W, Calls Try.prog 45 #[bothV q, encQ s] W fun e w' => ∃ u, e = .returned u ∧ QIn w' u (pN q s) ∧ Ext W w') (hvb : ∀ s ∈ uP, vP q s < 1000) (hnl : ∀ s ∈ uP, (pN q s).length ≤ 20000) (most : Nat) (hm1 : 2 * uP.length < most) (hm2 : most ≤ 20000) (s : Nat × List Nat) (hs : s ∈ uP) (w : World) :
    Calls Try.prog 6 #[.iface 35 (bothV q), encQ s, .int .i64 most] w fun e w' => e = .returned (winV (winF q (pN q s))) ∧ Ext w w' := by
  have HST := Lib.hid (fun W => start_pair q gm hd hnext hvb hnl most hm1 hm2 s hs W)
  have HCALL := Lib.hid (hnext s hs)
  have HNL := Lib.hid (hnl s hs)
  have HCL := Lib.hid (fun t ht => hd t (gm.clo s hs t ht).1)
  obtain ⟨R, hR⟩ : ∃ R, winV (winF q (pN q s)) = R := ⟨_, rfl⟩
  rw [hR]
  obtain ⟨LS, hLS⟩ : ∃ LS, pN q s = LS := ⟨_, rfl⟩
  rw [hLS] at HST HCALL HNL HCL hR
  have HR := Lib.hid hR
  obtain ⟨wz, rfl⟩ : ∃ wz : World, wz = w := ⟨_, rfl⟩
  obtain ⟨W1, hW1⟩ : ∃ W1, ((wz.alloc (.cells #[.int .i64 (s.1 : Int), .string (bys s.2)] 37)).alloc (.cells #[.int .i64 0, .string ⟨#[]⟩] 37)).alloc (.cells #[.int .i64 0, .string ⟨#[]⟩] 37) = W1 := ⟨_, rfl⟩
  have X1 : Ext wz W1 := by rw [← hW1]; exact (((Ext.refl wz).alloc _).alloc _).alloc _
  obtain ⟨T7, hT7⟩ : ∃ T7, wz.heap.size = T7 := ⟨_, rfl⟩
  have z0 : W1.cell? ⟨T7, 0, none⟩ = some (.int .i64 (s.1 : Int)) := by rw [← hW1, ← hT7]; simp [go_sem]
  have z1 : W1.cell? ⟨T7, 1, none⟩ = some (.string (bys s.2)) := by rw [← hW1, ← hT7]; simp [go_sem]
  have z2 : W1.cell? ⟨T7 + 1 + 1, 0, none⟩ = some (.int .i64 0) := by rw [← hW1, ← hT7]; simp [go_sem]
  have z3 : W1.cell? ⟨T7 + 1 + 1, 1, none⟩ = some (.string ⟨#[]⟩) := by rw [← hW1, ← hT7]; simp [go_sem]
  have z4 : W1.cell? ⟨T7 + 1, 0, none⟩ = some (.int .i64 0) := by rw [← hW1, ← hT7]; simp [go_sem]
  have z5 : W1.cell? ⟨T7 + 1, 1, none⟩ = some (.string ⟨#[]⟩) := by rw [← hW1, ← hT7]; simp [go_sem]
  have f0 : W1.frozen? ⟨T7 + 1, 0, none⟩ = false := by rw [← hW1, ← hT7]; simp [go_sem]
  have f1 : W1.frozen? ⟨T7 + 1, 1, none⟩ = false := by rw [← hW1, ← hT7]; simp [go_sem]
  have hT9 : T7 + 1 < W1.heap.size := World.block_lt_of_cell? _ _ z4
  have HX1 := Lib.hid X1
  clear hR hLS gm hd hnext hvb hnl hm1 hm2 hs X1
  unfold encQ
  go_enter Try.func6, Try.ntmps6
  go_wp2_with fail
  refine (HST.out _).mono ?_
  rintro e w2 ⟨u2, rfl, hp⟩
  obtain ⟨p, b, n', m', rfl, hv2, hk2, X2⟩ := hp
  have HV2 := Lib.hid hv2
  have HK2 := Lib.hid hk2
  have y0 := X2.cell z0
  have y1 := X2.cell z1
  have y2 := X2.cell z2
  have y3 := X2.cell z3
  have y4 := X2.cell z4
  have y5 := X2.cell z5
  have g0 := (frozen_extT X2 hT9).trans f0
  have g1 := (frozen_extT (p := ⟨T7 + 1, 1, none⟩) X2 hT9).trans f1
  have hT2 : T7 + 1 < w2.heap.size := Nat.lt_of_lt_of_le hT9 X2.size
  have HX2 := Lib.hid (HX1.out.trans X2)
  clear hv2 hk2 z0 z1 z2 z3 z4 z5 f0 f1 X2 hT9 hW1
  go_wp2_with fail
  refine (HCALL.out _).mono ?_
  rintro e w4 ⟨u4, rfl, hL4, X4⟩
  obtain ⟨ao, c, rfl, hal, hac⟩ := hL4.open
  have HR4 := Lib.hid hL4
  have HV4 := Lib.hid (HV2.out.ext X4)
  have x2 := X4.cell y2
  have x3 := X4.cell y3
  have x4 := X4.cell y4
  have x5 := X4.cell y5
  have h0 := (frozen_extT X4 hT2).trans g0
  have h1 := (frozen_extT (p := ⟨T7 + 1, 1, none⟩) X4 hT2).trans g1
  have hT4 : T7 + 1 < w4.heap.size := Nat.lt_of_lt_of_le hT2 X4.size
  have HX4 := Lib.hid (HX2.out.trans X4)
  have hnl := HNL.out
  clear hL4 hac y0 y1 y2 y3 y4 y5 g0 g1 X4 hT2
  go_wp2_with fail
  go_loopw [30] (fun iv wr => ∃ i : Nat, i ≤ LS.length ∧ iv = .int .i64 i ∧ Hid (winF q (LS.drop i) = winF q LS) ∧ Ext w4 wr) (fun iv _ => LS.length - (intOf iv).toNat)
  case atStart => exact ⟨0, Nat.zero_le _, rfl, rfl, Ext.refl _⟩
  case round =>
    obtain ⟨i, hi, rfl, HW, X⟩ := hrel
    by_cases hlt : i < LS.length
    · obtain ⟨x, d1, d2, d3⟩ := get_lt hlt
      obtain ⟨kb, off, rfl, hc0, hc1⟩ := QIn.at HR4.out d1
      have q0 := X.cell hc0
      have q1 := X.cell hc1
      have hii : (i : Int) < (LS.length : Int) := by omega
      have hmem := List.mem_of_getElem? d1.out
      have HF : Hid (oV (m' x) = some (.int .i64 (vP q x : Nat))) := by show _ = _; rw [HK2.out x hmem]; rfl
      obtain ⟨T8, hT8⟩ : ∃ T8, wr.heap.size = T8 := ⟨_, rfl⟩
      obtain ⟨W5, hW5⟩ : ∃ W5, wr.alloc (.cells #[.int .i64 (x.1 : Int), .string (bys x.2)] 37) = W5 := ⟨_, rfl⟩
      have X5 : Ext wr W5 := by rw [← hW5]; exact (Ext.refl wr).alloc _
      have k0 : W5.cell? ⟨T8, 0, none⟩ = some (.int .i64 (x.1 : Int)) := by rw [← hW5, ← hT8]; simp [go_sem]
      have k1 : W5.cell? ⟨T8, 1, none⟩ = some (.string (bys x.2)) := by rw [← hW5, ← hT8]; simp [go_sem]
      have hv5 := HV4.out.ext (X.trans X5)
      have c2 := hv5.c2
      have hlk := (hv5.ext (Ext.refl W5).drew).mp.look1 keyE_pair Try.underlying56 (zeroI' _) (HCL.out x hmem) HF.out
      simp only [Option.getD_some] at hlk
      unfold encQ at hlk
      have HX5 := Lib.hid (X.trans X5)
      have hwn := HW.out
      rw [d2.out] at hwn
      clear hv5 hmem HF hc0 hc1 X5 X
      by_cases hz : vP q x = 0
      · have hb0 : (((vP q x : Nat) : Int) == 0) = true := by simp [hz]
        have hrs : R = .tuple #[.agg #[.int .i64 (x.1 : Int), .string (bys x.2)], .int .i64 0] := by
          rw [← HR.out, ← hwn]
          unfold winF
          rw [List.find?_cons]
          simp [hz]
          rfl
        have n4 := HX5.out.cell x4
        have n5 := HX5.out.cell x5
        have m0 := (frozen_extT HX5.out hT4).trans h0
        have m1 := (frozen_extT (p := ⟨T7 + 1, 1, none⟩) HX5.out hT4).trans h1
        have HRS := Lib.hid hrs
        clear hwn hz hrs
        go_wp2_with fail
        go_region
        go_wp2_with fail
        obtain ⟨r0, r1⟩ := two_set (u := .int .i64 (x.1 : Int)) (v := .string (bys x.2)) n4 n5
        have HXF : Ext wz (((W5.setCell ⟨T7 + 1, 0, none⟩ (.int .i64 (x.1 : Int))).setCell ⟨T7 + 1, 1, none⟩ (.string (bys x.2))).drew) := (((HX4.out.trans HX5.out).setCell (by show wz.heap.size ≤ T7 + 1; omega) _).setCell (by show wz.heap.size ≤ T7 + 1; omega) _).drew
        have HXG := Lib.hid HXF
        clear HXF
        obtain ⟨V, hV⟩ : ∃ V, ((W5.setCell ⟨T7 + 1, 0, none⟩ (.int .i64 (x.1 : Int))).setCell ⟨T7 + 1, 1, none⟩ (.string (bys x.2))).drew = V := ⟨_, rfl⟩
        have r2 : V.cell? ⟨T7 + 1, 0, none⟩ = some (.int .i64 (x.1 : Int)) := by rw [← hV]; exact r0
        have r3 : V.cell? ⟨T7 + 1, 1, none⟩ = some (.string (bys x.2)) := by rw [← hV]; exact r1
        simp only [hV] at HXG ⊢
        refine bodyPost_ret (v := .tuple #[.agg #[.int .i64 (x.1 : Int), .string (bys x.2)], .int .i64 0]) (by simp [results, Try.results6, go_sem, r2, r3]) rfl ?_
        exact ⟨by rw [HRS.out], HXG.out⟩
      · have hb0 : (((vP q x : Nat) : Int) == 0) = false := by rw [beq_eq_false_iff_ne]; omega
        have HW2 : Hid (winF q (LS.drop (i + 1)) = winF q LS) := by
          show _ = _
          rw [← hwn]
          unfold winF
          rw [List.find?_cons]
          have e : (vP q x == 0) = false := by rw [beq_eq_false_iff_ne]; exact hz
          rw [e]
        clear hwn hz
        go_wp2_with fail
        go_region
        go_wp2_with fail
        go_roundw
        case rel => exact ⟨i + 1, by omega, by go_num, HW2.out, HX5.out.drew⟩
        case measure => simp [intOf]; omega
    · have hwn := HW.out
      rw [List.drop_of_length_le (by omega)] at hwn
      have hrs : R = .tuple #[.agg #[.int .i64 0, .string ⟨#[]⟩], .int .i64 8] := by
        rw [← HR.out, ← hwn]; rfl
      have HRS := Lib.hid hrs
      have hge : ¬ (i : Int) < (LS.length : Int) := by omega
      have n4 := X.cell x4
      have n5 := X.cell x5
      have n2 := X.cell x2
      have n3 := X.cell x3
      have m0 := (frozen_extT X hT4).trans h0
      have m1 := (frozen_extT (p := ⟨T7 + 1, 1, none⟩) X hT4).trans h1
      have HX := Lib.hid X
      clear hwn hrs X hlt
      go_wp2_with fail
      obtain ⟨r0, r1⟩ := two_set (u := .int .i64 0) (v := .string ⟨#[]⟩) n4 n5
      have HXF : Ext wz ((wr.setCell ⟨T7 + 1, 0, none⟩ (.int .i64 0)).setCell ⟨T7 + 1, 1, none⟩ (.string ⟨#[]⟩)) := ((HX4.out.trans HX.out).setCell (by show wz.heap.size ≤ T7 + 1; omega) _).setCell (by show wz.heap.size ≤ T7 + 1; omega) _
      have HXG := Lib.hid HXF
      clear HXF
      obtain ⟨V, hV⟩ : ∃ V, (wr.setCell ⟨T7 + 1, 0, none⟩ (.int .i64 0)).setCell ⟨T7 + 1, 1, none⟩ (.string ⟨#[]⟩) = V := ⟨_, rfl⟩
      have r2 : V.cell? ⟨T7 + 1, 0, none⟩ = some (.int .i64 0) := by rw [← hV]; exact r0
      have r3 : V.cell? ⟨T7 + 1, 1, none⟩ = some (.string ⟨#[]⟩) := by rw [← hV]; exact r1
      simp only [hV] at HXG ⊢
      refine bodyPost_ret (v := .tuple #[.agg #[.int .i64 0, .string ⟨#[]⟩], .int .i64 8]) (by simp [results, Try.results6, go_sem, r2, r3]) rfl ?_
      exact ⟨by rw [HRS.out], HXG.out⟩
end Go.Proofs.Ytnmcljjfepngeaa
