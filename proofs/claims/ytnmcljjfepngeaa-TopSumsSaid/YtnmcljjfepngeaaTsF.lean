/- walks of package nimsum: insert, Split.Next -/
import Derived.Test.YtnmcljjfepngeaaTsE
namespace Go.Proofs.Ytnmcljjfepngeaa
open Go.RowKit
set_option linter.unusedVariables false

set_option maxHeartbeats 1600000 in
set_option maxRecDepth 100000 in
theorem insert_any (v : Value) (xs : List Nat) (x : Nat) (w : World) (hv : RowOf encU w v xs) (hl : xs.length ≤ 64) :
    Calls Try.prog 36 #[v, encU x] w fun e w' => ∃ u, e = .returned u ∧ RowOf encU w' u (ins xs x) ∧ Ext w w' := by
  obtain ⟨wo, rfl⟩ : ∃ wo : World, wo = w := ⟨_, rfl⟩
  obtain ⟨i, hi, hins, hidx⟩ := ins_at xs x
  obtain ⟨W1, hW1⟩ : ∃ W1, wo.alloc (.cells #[.int .u8 (x : Int)] 5) = W1 := ⟨_, rfl⟩
  have X1 : Ext wo W1 := by rw [← hW1]; exact (Ext.refl wo).alloc _
  obtain ⟨T7, hT7⟩ : ∃ T7, wo.heap.size = T7 := ⟨_, rfl⟩
  have y0 : W1.cell? ⟨T7, 0, none⟩ = some (encU x) := by rw [← hW1, ← hT7]; simp [go_sem, encU]
  have hv1 := hv.ext X1
  have HIX := Lib.hid (indexFunc_bytes v (xs.map encU) (xs.map fun y => decide (x ≤ y)) 38 #[.pointer (some ⟨T7, 0, none⟩)] W1 hv1 (by simp) (fun args w => by kernel_rfl) (fun j u q W hu hq hX => by
    rw [List.getElem?_map] at hu hq
    cases hy : xs[j]? with
    | none => rw [hy] at hu; cases hu
    | some y =>
      rw [hy] at hu hq
      obtain rfl := Option.some.inj hu
      obtain rfl := Option.some.inj hq
      exact insertClo_any x y T7 W (hX.cell y0)))
  obtain ⟨J, hJ⟩ : ∃ J, idxF id (xs.map fun y => decide (x ≤ y)) 0 = J := ⟨_, rfl⟩
  rw [hJ] at HIX hidx
  have HCL := Lib.hid (fun W (hX : Ext wo W) => clone_bytes v xs W (hv.ext hX))
  have HINS := Lib.hid (fun s u (W0 W : World) (h1 : W.ownsRow W0.heap.size 5 1 s xs.length (xs.map encU)) (h2 : W.ownsRow W0.heap.size 5 1 u 1 [encU x]) (h3 : ∀ k, u.ownBlock = some k → s.ownBlock ≠ some k) (h4 : Ext W0 W) => insertLib_any xs x i s u W0 W hl hi h1 h2 h3 h4)
  have HE := Lib.hid hins
  have HX1 := Lib.hid X1
  obtain ⟨ao, c, rfl, hlen, _⟩ := hv.open
  obtain ⟨n, hn⟩ : ∃ n, xs.length = n := ⟨_, rfl⟩
  rw [hn] at hidx hi hl hlen HINS HCL HIX ⊢
  unfold encU at y0
  clear hJ hins X1 hv1 hv
  unfold encU
  go_enter Try.func36, Try.ntmps36
  go_wp2_with fail
  refine HIX.out.mono ?_
  rintro e w2 ⟨rfl, X2⟩
  have z0 := X2.cell y0
  have z1 := Lib.hid z0
  have HX2 := Lib.hid X2
  rcases hidx with ⟨rfl, h2⟩ | ⟨rfl, h2⟩
  · have b1 : ¬ (i : Int) < 0 := by omega
    go_wp2_with fail
    go_region_held3 (fun W9 => W9.cell? ⟨T7, 0, none⟩ = some (.int .u8 (x : Int))) (first | exact X4.cell z0 | exact X3.cell z0 | exact X3.cell (((Ext.refl w2).drew.alloc _).cell z0) | exact z0 | go_keep) (first
      | (go_at_call 40; refine (HCL.out _ (Ext.trans (HX1.out.trans HX2.out) (by repeat' (first | with_reducible exact Ext.refl _ | with_reducible apply Ext.alloc | with_reducible apply Ext.drew)))).mono ?_; rintro e w3 ⟨u, rfl, hO, X3⟩)
      | (go_at_call 39; refine (HINS.out _ _ w2 _ (by first | exact own_mono (own_ext hO ((Ext.refl _).alloc _)) (Nat.le_refl _) | exact own_mono hO (by simp)) (by first | exact own_mono (own_lit1 w3 (encU x) _) X3.size | exact own_ext (own_lit1 w2.drew (encU x) _) X3) (by
          intro k hk1 hk2
          simp only [Value.ownBlock, Option.some.injEq] at hk1
          subst hk1
          have h5 := hO.lt _ hk2
          have e : ∀ o : Obj, ((w2.alloc o).drew).heap.size = w2.heap.size + 1 := fun o => by show (w2.alloc o).heap.size = _; simp
          first | omega | (rw [e] at h5; omega) | (simp at h5; omega)) (by first | exact Ext.alloc (Ext.drew (Ext.refl _) |>.trans X3) _ | exact (((Ext.refl w2).drew).alloc _).trans X3)).mono ?_; rintro e w4 ⟨u4, rfl, hR, X4⟩))
    all_goals
      go_wp2_with fail
      go_ret
      exact ⟨_, rfl, by rw [HE.out]; exact hR, HX1.out.trans (HX2.out.trans X4)⟩
  · subst h2
    go_wp2_with fail
    go_region_held3 (fun W9 => W9.cell? ⟨T7, 0, none⟩ = some (.int .u8 (x : Int))) (first | exact X4.cell z0 | exact X3.cell z0 | exact X3.cell (((Ext.refl w2).drew.alloc _).cell z0) | exact z0 | go_keep) (first
      | (go_at_call 40; refine (HCL.out _ (Ext.trans (HX1.out.trans HX2.out) (by repeat' (first | with_reducible exact Ext.refl _ | with_reducible apply Ext.alloc | with_reducible apply Ext.drew)))).mono ?_; rintro e w3 ⟨u, rfl, hO, X3⟩)
      | (go_at_call 39; refine (HINS.out _ _ w2 _ (by first | exact own_mono (own_ext hO ((Ext.refl _).alloc _)) (Nat.le_refl _) | exact own_mono hO (by simp)) (by first | exact own_mono (own_lit1 w3 (encU x) _) X3.size | exact own_ext (own_lit1 w2.drew (encU x) _) X3) (by
          intro k hk1 hk2
          simp only [Value.ownBlock, Option.some.injEq] at hk1
          subst hk1
          have h5 := hO.lt _ hk2
          have e : ∀ o : Obj, ((w2.alloc o).drew).heap.size = w2.heap.size + 1 := fun o => by show (w2.alloc o).heap.size = _; simp
          first | omega | (rw [e] at h5; omega) | (simp at h5; omega)) (by first | exact Ext.alloc (Ext.drew (Ext.refl _) |>.trans X3) _ | exact (((Ext.refl w2).drew).alloc _).trans X3)).mono ?_; rintro e w4 ⟨u4, rfl, hR, X4⟩))
    all_goals
      go_wp2_with fail
      go_ret
      exact ⟨_, rfl, by rw [HE.out]; exact hR, HX1.out.trans (HX2.out.trans X4)⟩
end Go.Proofs.Ytnmcljjfepngeaa
