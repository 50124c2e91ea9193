/- walks of package nimsum: start, Value, Wins -/
import Derived.Test.YtnmcljjfepngeaaTsJ
import Derived.Test.YtnmcljjfepngeaaTsK
import Derived.Test.YtnmcljjfepngeaaTsL
namespace Go.Proofs.Ytnmcljjfepngeaa
open Go.RowKit Go.Maps
set_option linter.unusedVariables false

/-- what start leaves -/
def SPost {S : Type} [DecidableEq S] (P : Program) (k : TypeId) (enc : S → Value) (dom : S → Prop) (U : List S) (val : S → Nat) (gv : Value) (most : Nat) (s : S) (ch : List S) (u : Value) (w w' : World) : Prop :=
  ∃ p b n' m', u = .tuple #[.pointer (some ⟨p, 0, none⟩), .int .i64 (val s : Nat), .int .i64 0] ∧ VS P k enc dom U w' p b gv most n' m' ∧ (∀ t ∈ ch, m' t = some (val t : Int)) ∧ Ext w w'
theorem VS.made {S : Type} [DecidableEq S] {P : Program} {k : TypeId} {enc : S → Value} {dom : S → Prop} {U : List S} (w : World) (gv : Value) (most : Nat) (t : TypeId) : VS P k enc dom U ((w.alloc (.map #[] 0)).alloc (.cells #[gv, .int .i64 most, .map (some w.heap.size)] t)) (w.heap.size + 1) w.heap.size gv most 0 (fun _ => none) := by
  refine ⟨by simp [go_sem], by simp [go_sem], by simp [go_sem], ?_, Nat.zero_le _⟩
  exact (MapG.ext (MapG.made w) ((Ext.refl _).alloc _)).cong fun i => rfl

set_option maxHeartbeats 3200000 in
set_option maxRecDepth 100000 in
theorem start_int (q : Nat) (gm : GmOk (hN q) uH (vH q) id) (hd : ∀ s ∈ uH, domI s) (hnext : ∀ s ∈ uH, ∀ W, Calls Try.prog 34 #[.agg #[.int .i64 q], encI s] W fun e w' => ∃ u, e = .returned u ∧ RowOf encI w' u (hN q s) ∧ Ext W w') (hvb : ∀ s ∈ uH, (vH q) s < 1000) (hnl : ∀ s ∈ uH, ((hN q) s).length ≤ 20000) (most : Nat) (hm1 : 2 * (uH).length < most) (hm2 : most ≤ 20000) (s : Nat) (hs : s ∈ uH) (w : World) :
    Calls Try.prog 10 #[(.iface 26 (.agg #[.int .i64 (q : Int)])), encI s, .int .i64 most] w fun e w' => ∃ u, e = .returned u ∧ SPost Try.prog 3 encI domI uH (vH q) (.iface 26 (.agg #[.int .i64 (q : Int)])) most s ((hN q) s) u w w' := by
  have HVAL := Lib.hid (fun p b m n W h1 h2 => value_int q gm hd hnext hvb hnl most hm1 hm2 p b (id s) s m n W hs (Nat.le_refl _) h1 h2)
  have b1 : ¬ (most : Int) < 1 := by omega
  have b2 : ¬ (20000 : Int) < (most : Int) := by omega
  have hmm := @run_makeMap Try.prog
  have hv := VS.made (P := Try.prog) (k := 3) (enc := encI) (dom := domI) (U := uH) w (.iface 26 (.agg #[.int .i64 (q : Int)])) most 67
  obtain ⟨W1, hW1⟩ : ∃ W1, (w.alloc (.map #[] 0)).alloc (.cells #[(.iface 26 (.agg #[.int .i64 (q : Int)])), .int .i64 most, .map (some w.heap.size)] 67) = W1 := ⟨_, rfl⟩
  have X1 : Ext w W1 := by rw [← hW1]; exact ((Ext.refl w).alloc _).alloc _
  rw [hW1] at hv
  have HV := Lib.hid hv
  have HX1 := Lib.hid X1
  clear hv gm hd hnext hvb hnl hm1 hm2 hs X1
  unfold encI
  go_enter Try.func10, Try.ntmps10
  go_wp2_with fail
  refine (HVAL.out _ _ _ _ _ HV.out (fun t k h => by cases h)).mono ?_
  rintro e w2 ⟨rfl, hp⟩
  obtain ⟨m', n', hv2, _, _, hk2, hg2⟩ := hp
  have HV2 := Lib.hid hv2
  have HK2 := Lib.hid (hk2 rfl)
  have HX2 : Ext w w2 := hg2.ext HX1.out (Nat.le_refl _)
  have HX3 := Lib.hid HX2
  clear hv2 hk2 hg2 HX2 hW1
  go_wp2_with fail
  go_ret3
  exact ⟨_, rfl, _, _, n', m', rfl, HV2.out, HK2.out, HX3.out⟩

set_option maxHeartbeats 3200000 in
set_option maxRecDepth 100000 in
theorem nimValue_int (q : Nat) (gm : GmOk (hN q) uH (vH q) id) (hd : ∀ s ∈ uH, domI s) (hnext : ∀ s ∈ uH, ∀ W, Calls Try.prog 34 #[.agg #[.int .i64 q], encI s] W fun e w' => ∃ u, e = .returned u ∧ RowOf encI w' u (hN q s) ∧ Ext W w') (hvb : ∀ s ∈ uH, (vH q) s < 1000) (hnl : ∀ s ∈ uH, ((hN q) s).length ≤ 20000) (most : Nat) (hm1 : 2 * (uH).length < most) (hm2 : most ≤ 20000) (s : Nat) (hs : s ∈ uH) (w : World) :
    Calls Try.prog 4 #[(.iface 26 (.agg #[.int .i64 (q : Int)])), encI s, .int .i64 most] w fun e w' => e = .returned (.tuple #[.int .i64 ((vH q) s : Nat), .int .i64 0]) ∧ Ext w w' := by
  have HST := Lib.hid (fun W => start_int q gm hd hnext hvb hnl most hm1 hm2 s hs W)
  clear gm hd hnext hvb hnl hm1 hm2 hs
  unfold encI
  go_enter Try.func4, Try.ntmps4
  go_wp2_with fail
  refine (HST.out _).mono ?_
  rintro e w2 ⟨u2, rfl, hp⟩
  obtain ⟨p, b, n', m', rfl, _, _, X⟩ := hp
  have HX := Lib.hid X
  clear X
  go_wp2_with fail
  go_ret2
  exact ⟨rfl, HX.out⟩

set_option maxHeartbeats 3200000 in
set_option maxRecDepth 100000 in
theorem start_string (q : Nat) (gm : GmOk sN uS vS rkS) (hd : ∀ s ∈ uS, domB s) (hnext : ∀ s ∈ uS, ∀ W, Calls Try.prog 35 #[.agg #[], encB s] W fun e w' => ∃ u, e = .returned u ∧ RowOf encB w' u (sN s) ∧ Ext W w') (hvb : ∀ s ∈ uS, vS s < 1000) (hnl : ∀ s ∈ uS, (sN s).length ≤ 20000) (most : Nat) (hm1 : 2 * (uS).length < most) (hm2 : most ≤ 20000) (s : (List Nat)) (hs : s ∈ uS) (w : World) :
    Calls Try.prog 12 #[(.iface 29 (.agg #[])), encB s, .int .i64 most] w fun e w' => ∃ u, e = .returned u ∧ SPost Try.prog 9 encB domB uS vS (.iface 29 (.agg #[])) most s (sN s) u w w' := by
  have HVAL := Lib.hid (fun p b m n W h1 h2 => value_string q gm hd hnext hvb hnl most hm1 hm2 p b (rkS s) s m n W hs (Nat.le_refl _) h1 h2)
  have b1 : ¬ (most : Int) < 1 := by omega
  have b2 : ¬ (20000 : Int) < (most : Int) := by omega
  have hmm := @run_makeMap Try.prog
  have hv := VS.made (P := Try.prog) (k := 9) (enc := encB) (dom := domB) (U := uS) w (.iface 29 (.agg #[])) most 72
  obtain ⟨W1, hW1⟩ : ∃ W1, (w.alloc (.map #[] 0)).alloc (.cells #[(.iface 29 (.agg #[])), .int .i64 most, .map (some w.heap.size)] 72) = W1 := ⟨_, rfl⟩
  have X1 : Ext w W1 := by rw [← hW1]; exact ((Ext.refl w).alloc _).alloc _
  rw [hW1] at hv
  have HV := Lib.hid hv
  have HX1 := Lib.hid X1
  clear hv gm hd hnext hvb hnl hm1 hm2 hs X1
  unfold encB
  go_enter Try.func12, Try.ntmps12
  go_wp2_with fail
  refine (HVAL.out _ _ _ _ _ HV.out (fun t k h => by cases h)).mono ?_
  rintro e w2 ⟨rfl, hp⟩
  obtain ⟨m', n', hv2, _, _, hk2, hg2⟩ := hp
  have HV2 := Lib.hid hv2
  have HK2 := Lib.hid (hk2 rfl)
  have HX2 : Ext w w2 := hg2.ext HX1.out (Nat.le_refl _)
  have HX3 := Lib.hid HX2
  clear hv2 hk2 hg2 HX2 hW1
  go_wp2_with fail
  go_ret3
  exact ⟨_, rfl, _, _, n', m', rfl, HV2.out, HK2.out, HX3.out⟩

set_option maxHeartbeats 3200000 in
set_option maxRecDepth 100000 in
theorem nimValue_string (q : Nat) (gm : GmOk sN uS vS rkS) (hd : ∀ s ∈ uS, domB s) (hnext : ∀ s ∈ uS, ∀ W, Calls Try.prog 35 #[.agg #[], encB s] W fun e w' => ∃ u, e = .returned u ∧ RowOf encB w' u (sN s) ∧ Ext W w') (hvb : ∀ s ∈ uS, vS s < 1000) (hnl : ∀ s ∈ uS, (sN s).length ≤ 20000) (most : Nat) (hm1 : 2 * (uS).length < most) (hm2 : most ≤ 20000) (s : (List Nat)) (hs : s ∈ uS) (w : World) :
    Calls Try.prog 8 #[(.iface 29 (.agg #[])), encB s, .int .i64 most] w fun e w' => e = .returned (.tuple #[.int .i64 (vS s : Nat), .int .i64 0]) ∧ Ext w w' := by
  have HST := Lib.hid (fun W => start_string q gm hd hnext hvb hnl most hm1 hm2 s hs W)
  clear gm hd hnext hvb hnl hm1 hm2 hs
  unfold encB
  go_enter Try.func8, Try.ntmps8
  go_wp2_with fail
  refine (HST.out _).mono ?_
  rintro e w2 ⟨u2, rfl, hp⟩
  obtain ⟨p, b, n', m', rfl, _, _, X⟩ := hp
  have HX := Lib.hid X
  clear X
  go_wp2_with fail
  go_ret2
  exact ⟨rfl, HX.out⟩

set_option maxHeartbeats 3200000 in
set_option maxRecDepth 100000 in
theorem start_pair (q : Nat) (gm : GmOk (pN q) uP (vP q) rkP) (hd : ∀ s ∈ uP, domQ s) (hnext : ∀ s ∈ uP, ∀ W, Calls Try.prog 45 #[bothV q, encQ s] W fun e w' => ∃ u, e = .returned u ∧ QIn w' u (pN q s) ∧ Ext W w') (hvb : ∀ s ∈ uP, (vP q) s < 1000) (hnl : ∀ s ∈ uP, ((pN q) s).length ≤ 20000) (most : Nat) (hm1 : 2 * (uP).length < most) (hm2 : most ≤ 20000) (s : (Nat × List Nat)) (hs : s ∈ uP) (w : World) :
    Calls Try.prog 11 #[(.iface 35 (bothV q)), encQ s, .int .i64 most] w fun e w' => ∃ u, e = .returned u ∧ SPost Try.prog 37 encQ domQ uP (vP q) (.iface 35 (bothV q)) most s ((pN q) s) u w w' := by
  have HVAL := Lib.hid (fun p b m n W h1 h2 => value_pair q gm hd hnext hvb hnl most hm1 hm2 p b (rkP s) s m n W hs (Nat.le_refl _) h1 h2)
  have b1 : ¬ (most : Int) < 1 := by omega
  have b2 : ¬ (20000 : Int) < (most : Int) := by omega
  have hmm := @run_makeMap Try.prog
  obtain ⟨wz, rfl⟩ : ∃ wz : World, wz = w := ⟨_, rfl⟩
  obtain ⟨w, hw⟩ : ∃ w, wz.alloc (.cells #[.int .i64 (s.1 : Int), .string (bys s.2)] 37) = w := ⟨_, rfl⟩
  have X0 : Ext wz w := by rw [← hw]; exact (Ext.refl wz).alloc _
  obtain ⟨T7, hT7⟩ : ∃ T7, wz.heap.size = T7 := ⟨_, rfl⟩
  have z0 : w.cell? ⟨T7, 0, none⟩ = some (.int .i64 (s.1 : Int)) := by rw [← hw, ← hT7]; simp [go_sem]
  have z1 : w.cell? ⟨T7, 1, none⟩ = some (.string (bys s.2)) := by rw [← hw, ← hT7]; simp [go_sem]
  have HX0 := Lib.hid X0
  have hv := VS.made (P := Try.prog) (k := 37) (enc := encQ) (dom := domQ) (U := uP) w (.iface 35 (bothV q)) most 58
  obtain ⟨W1, hW1⟩ : ∃ W1, (w.alloc (.map #[] 0)).alloc (.cells #[(.iface 35 (bothV q)), .int .i64 most, .map (some w.heap.size)] 58) = W1 := ⟨_, rfl⟩
  have X1 : Ext w W1 := by rw [← hW1]; exact ((Ext.refl w).alloc _).alloc _
  rw [hW1] at hv
  have HV := Lib.hid hv
  have HX1 := Lib.hid X1
  have y0 := X1.cell z0
  have y1 := X1.cell z1
  clear hv gm hd hnext hvb hnl hm1 hm2 hs X1
  unfold encQ
  go_enter Try.func11, Try.ntmps11
  go_wp2_with fail
  refine (HVAL.out _ _ _ _ _ HV.out (fun t k h => by cases h)).mono ?_
  rintro e w2 ⟨rfl, hp⟩
  obtain ⟨m', n', hv2, _, _, hk2, hg2⟩ := hp
  have HV2 := Lib.hid hv2
  have HK2 := Lib.hid (hk2 rfl)
  have HX2 : Ext w w2 := hg2.ext HX1.out (Nat.le_refl _)
  have HX3 := Lib.hid HX2
  clear hv2 hk2 hg2 HX2 hW1
  go_wp2_with fail
  go_ret3
  exact ⟨_, rfl, _, _, n', m', rfl, HV2.out, HK2.out, HX0.out.trans HX3.out⟩

set_option maxHeartbeats 3200000 in
set_option maxRecDepth 100000 in
theorem nimValue_pair (q : Nat) (gm : GmOk (pN q) uP (vP q) rkP) (hd : ∀ s ∈ uP, domQ s) (hnext : ∀ s ∈ uP, ∀ W, Calls Try.prog 45 #[bothV q, encQ s] W fun e w' => ∃ u, e = .returned u ∧ QIn w' u (pN q s) ∧ Ext W w') (hvb : ∀ s ∈ uP, (vP q) s < 1000) (hnl : ∀ s ∈ uP, ((pN q) s).length ≤ 20000) (most : Nat) (hm1 : 2 * (uP).length < most) (hm2 : most ≤ 20000) (s : (Nat × List Nat)) (hs : s ∈ uP) (w : World) :
    Calls Try.prog 7 #[(.iface 35 (bothV q)), encQ s, .int .i64 most] w fun e w' => e = .returned (.tuple #[.int .i64 ((vP q) s : Nat), .int .i64 0]) ∧ Ext w w' := by
  have HST := Lib.hid (fun W => start_pair q gm hd hnext hvb hnl most hm1 hm2 s hs W)
  clear gm hd hnext hvb hnl hm1 hm2 hs
  unfold encQ
  go_enter Try.func7, Try.ntmps7
  go_wp2_with fail
  refine (HST.out _).mono ?_
  rintro e w2 ⟨u2, rfl, hp⟩
  obtain ⟨p, b, n', m', rfl, _, _, X⟩ := hp
  have HX := Lib.hid X
  clear X
  go_wp2_with fail
  go_ret2
  exact ⟨rfl, ((Ext.refl w).alloc _).trans HX.out⟩
end Go.Proofs.Ytnmcljjfepngeaa
