/- the walk of dealFact -/
import Derived.Test.YtllhgkacbpgemaaDeal10
namespace Go.Proofs.Ytllhgkacbpgemaa
open Go.RowKit

theorem rows2_lit (w : World) (a b : List Int) (ha : a.length ≤ 17592186044416) (hb : b.length ≤ 17592186044416) (e e1 e2 : TypeId) (k1 k2 : Nat) (h1 : k1 = w.heap.size) (h2 : k2 = w.heap.size + 1) :
    Rows (Value.int .i64) (((w.alloc (.cells (a.map (Value.int .i64)).toArray e1)).alloc (.cells (b.map (Value.int .i64)).toArray e2)).alloc (.cells #[.slice (some ⟨k1, 0, none⟩) a.length a.length, .slice (some ⟨k2, 0, none⟩) b.length b.length] e)) (.slice (some ⟨w.heap.size + 2, 0, none⟩) 2 2) [a, b] := by
  subst h1; subst h2
  refine rows_lit [.slice (some ⟨w.heap.size, 0, none⟩) a.length a.length, .slice (some ⟨w.heap.size + 1, 0, none⟩) b.length b.length] [a, b] _ (by simp) (by simp) rfl ?_
  intro i u xs g1 g2
  match i with
  | 0 =>
    simp at g1 g2; subst g1; subst g2
    exact (lit_ints w e1 a ha).ext ((Ext.refl _).alloc _)
  | 1 =>
    simp at g1 g2; subst g1; subst g2
    exact lit_ints_at _ e2 b hb _ (by simp)
  | i + 2 => simp at g1

set_option maxHeartbeats 4000000 in
set_option maxRecDepth 100000 in
theorem dealFact_any (w : World) : Calls Try.prog 24 #[] w fun e w' => e = .returned (.bool true) ∧ Ext w w' := by
  obtain ⟨z, hz⟩ : ∃ z, Hid (sealF [0] 7 = z) := ⟨_, rfl⟩
  obtain ⟨z0, hz0⟩ : ∃ z, Hid (sealF [] 0 = z) := ⟨_, rfl⟩
  obtain ⟨z1, hz1⟩ : ∃ z, Hid (sealF [] 1 = z) := ⟨_, rfl⟩
  have hz01 : (z0 != z1) = true := by rw [← hz0.out, ← hz1.out]; decide +kernel
  have HC := Lib.hid (fun (W : World) v h => combine_ok 3 v [[2, 1], [2, 1]] W h (by decide) (by decide) (by decide))
  have HS := Lib.hid (fun (W : World) v h => by have := seal_any v [0] 7 W h (by decide); rw [hz.out] at this; exact this)
  have HS0 := Lib.hid (fun (W : World) => by have := seal_any (.slice none 0 0) [] 0 W (Row.nil _) (by decide); rw [hz0.out] at this; exact this)
  have HS1 := Lib.hid (fun (W : World) => by have := seal_any (.slice none 0 0) [] 1 W (Row.nil _) (by decide); rw [hz1.out] at this; exact this)
  go_enter Try.func24, Try.ntmps24
  go_wp2_with fail
  refine (HC.out _ _ (by exact rows2_lit w [2, 1] [2, 1] (by decide) (by decide) _ _ _ _ _ rfl (by simp))).mono ?_
  rintro e w1 ⟨u1, rfl, hu1, hx1⟩
  have X1 := (((Ext.refl w).alloc _).alloc _).alloc _ |>.trans hx1
  have hu1 := own_rowOf (enc := Value.int .i64) hu1 (by decide)
  rw [show combF 3 [[2, 1], [2, 1]] = [1, 0] from by decide] at hu1
  clear hx1
  go_wp2_with fail
  refine (new_ok 1 2 w1 (by decide) (by decide) (by decide)).mono ?_
  rintro e w2 ⟨tb, rfl, ⟨pb, hT2⟩, hx2⟩
  have htb := (hT2.own.lt tb rfl).1
  have hpb := (hT2.row.lt pb rfl).1
  go_wp2_with fail
  refine (fine_any _ [0, 0] _ (by exact lit_ints w2 _ [0, 0] (by decide)) true rfl).mono ?_
  rintro e w3 ⟨rfl, hx3⟩
  have E3 := hx2.trans (((Ext.refl w2).alloc _).trans hx3)
  have hT3 := hT2.ext (((Ext.refl w2).alloc _).trans hx3)
  clear hx2 hx3 hT2
  go_wp2_with fail
  have HM := missing_any w1.heap.size tb pb 2 _ (-1) w3 hT3
  rw [show missF (stageF (List.replicate 1 pv0) (-1)) (List.replicate 1 pv0) = [0] from by decide] at HM
  refine HM.mono ?_
  rintro e w4 ⟨u4, rfl, hu4, hx4⟩
  obtain ⟨ao4, c4, rfl, _, _⟩ := hu4.open
  have E4 := E3.trans hx4
  have hT4 := hT3.ext hx4
  clear hx4 hT3 E3 HM hu4
  go_wp2_with fail
  refine (HS.out _ _ (by exact lit_ints w4 _ [0] (by decide))).mono ?_
  rintro e w5 ⟨rfl, hx5⟩
  have E5 := E4.trans (((Ext.refl w4).alloc _).trans hx5)
  have hT5 := hT4.ext (((Ext.refl w4).alloc _).trans hx5)
  clear hx5 hT4 E4
  go_wp2_with fail
  refine (commit_ok w1.heap.size tb pb 2 _ (-1) z 0 pv0 w5 hT5 (by decide) (by decide) rfl rfl).mono ?_
  rintro e w6 ⟨rfl, hT6, hk6⟩
  have E6 := hk6.ext E5 htb hpb
  clear hk6 hT5 E5
  obtain ⟨P1, hP1⟩ : ∃ P1 : PV, Hid ({ pv0 with sealed := true, mark := z } = P1) := ⟨_, rfl⟩
  have hT6 : Tab w6 w1.heap.size tb pb 2 [P1] (-1) := by rw [← hP1.out]; exact hT6
  have hs1 : P1.sealed = true := by rw [← hP1.out]
  have ho1 : P1.opened = false := by rw [← hP1.out]; rfl
  have hm1 : P1.mark = z := by rw [← hP1.out]
  have hst : stageF [P1] (-1) = 1 := by simp [stageF, hs1, ho1]
  have hc1 : chkF [P1] (-1) 0 1 = 0 := by simp [chkF, hst]
  have HST := Lib.hid hst
  have HCH := Lib.hid hc1
  have HO1 := Lib.hid ho1
  have HS1' := Lib.hid hs1
  have HM1 := Lib.hid hm1
  clear hst hc1 ho1 hs1 hm1
  go_wp2_with fail
  have HM := stage_any w1.heap.size tb pb 2 [P1] (-1) w6 hT6
  rw [HST.out] at HM
  refine HM.mono ?_
  rintro e w7 ⟨rfl, hx7⟩
  have E7 := E6.trans hx7
  have hT7 := hT6.ext hx7
  clear hx7 hT6 E6 HM
  go_wp2_with fail
  refine (open_ok w1.heap.size tb pb 2 (by decide) [P1] (-1) 7 _ [0] 0 P1 _ (hT7.ext ((Ext.refl w7).alloc _)) (by exact lit_ints w7 _ [0] (by decide)) HCH.out (by simp) rfl HO1.out (by decide) (by decide) (by rw [HM1.out, hz.out]; simp)).mono ?_
  rintro e w8 ⟨rfl, ⟨da, dc, hT8, hO8⟩, hk8⟩
  have E8 := hk8.ext (E7.alloc _) htb hpb
  obtain ⟨P2, hP2⟩ : ∃ P2 : PV, Hid ({ P1 with opened := true, da := da, dl := [(0 : Int)].length, dc := dc } = P2) := ⟨_, rfl⟩
  have hT8 : Tab w8 w1.heap.size tb pb (2 : Nat) [P2] (-1) := by rw [← hP2.out]; exact hT8
  have hst : stageF [P2] (-1) = 2 := by rw [← hP2.out]; simp [stageF, HS1'.out]
  have HST2 := Lib.hid hst
  have hd2 : P2.draws = .slice da 1 dc := by rw [← hP2.out]; rfl
  have hR8 : Ints w8 P2.draws [0] := by rw [hd2]; exact own_rowOf hO8 (by decide)
  clear hst hd2 hk8 hT7 E7 hO8
  go_wp2_with fail
  refine (deck_ok w1.heap.size tb pb 2 [P2] (-1) [[0]] w8 hT8 HST2.out (by decide) rfl (fun i p ds a b => by
    match i with
    | 0 => simp at a b; subst a; subst b; exact hR8
    | i + 1 => simp at a) (by decide)).mono ?_
  rintro e w9 ⟨u9, rfl, hu9, hx9⟩
  have hu9 := own_rowOf (enc := Value.int .i64) hu9 (by decide)
  rw [show shufF (freshI 2) (combF 2 [[0]]) = [1, 0] from by decide] at hu9
  have E9 := E8.trans hx9
  have hT9 := hT8.ext hx9
  clear hx9 hT8 E8 hR8
  go_wp2_with fail
  refine (cheat_none w1.heap.size tb pb (2 : Nat) [P2] (-1) w9 hT9 (by decide)).mono ?_
  rintro e w10 ⟨rfl, rfl⟩
  go_wp2_with fail
  refine (fine_any _ [0, 0, 0] _ (by exact lit_ints w9 _ [0, 0, 0] (by decide)) true rfl).mono ?_
  rintro e w11 ⟨rfl, hx11⟩
  have Y11 := ((Ext.refl w9).alloc _).trans hx11
  clear hx11
  go_wp2_with fail
  refine (equal_ints _ _ [1, 0] [1, 0] _ (hu1.ext (E9.trans (Y11.alloc _))) (by exact lit_ints w11 _ [1, 0] (by decide)) true rfl).mono ?_
  rintro e w12 ⟨rfl, hx12⟩
  have Y12 := (Y11.alloc _).trans hx12
  clear hx12 Y11
  go_wp2_with fail
  have HM := stage_any w1.heap.size tb pb (2 : Nat) [P2] (-1) w12 (hT9.ext Y12)
  rw [HST2.out] at HM
  refine HM.mono ?_
  rintro e w13 ⟨rfl, hx13⟩
  have Y13 := Y12.trans hx13
  clear hx13 Y12 HM
  go_wp2_with fail
  refine (equal_ints _ _ [1, 0] [1, 0] _ (hu9.ext (Y13.alloc _)) (by exact lit_ints w13 _ [1, 0] (by decide)) true rfl).mono ?_
  rintro e w14 ⟨rfl, hx14⟩
  have Y14 := (Y13.alloc _).trans hx14
  clear hx14 Y13
  go_wp2_with fail
  refine (HS0.out _).mono ?_
  rintro e w15 ⟨rfl, hx15⟩
  have Y15 := Y14.trans hx15
  clear hx15 Y14
  go_wp2_with fail
  refine (HS1.out _).mono ?_
  rintro e w16 ⟨rfl, hx16⟩
  have Y16 := Y15.trans hx16
  clear hx16 Y15
  go_wp2_with fail
  go_ret
  exact ⟨rfl, X1.trans (E9.trans Y16)⟩
end Go.Proofs.Ytllhgkacbpgemaa
