/- the walk of cardsFact -/
import Derived.Test.YtllhgkacbpgemaaDoorCards11
namespace Go.Proofs.YtllhgkacbpgemaaDoor
open Go.RowKit
set_option linter.unusedVariables false

set_option maxHeartbeats 8000000 in
set_option maxRecDepth 100000 in
theorem cardsFact_any (w : World) (hsh : w.ShapedOpen Tryd.prog) : Calls Tryd.prog 8 #[] w fun e w' => e = .returned (.bool true) ∧ Ext w w' := by
  have E_0 := Ext.refl w
  have hjt : Hid (joinT (cardTs [0, 51]) spaceT = ⟨#[50, 67, 32, 65, 83]⟩) := by show _ = _; decide +kernel
  have hre : Hid (readErr ⟨#[50, 67, 32, 65, 83]⟩ = 0) := by show _ = _; decide +kernel
  have hro : Hid (readO ⟨#[50, 67, 32, 65, 83]⟩ = some [0, 51]) := by show _ = _; decide +kernel
  have hck : deckErr [1, 1] = 7 := by decide
  have hft : drawsErr 2 [] = 3 := by decide
  go_enter Tryd.func8, Tryd.ntmps8
  go_wp2_with fail
  refine (fresh_ok 3 _ (by decide)).mono ?_
  rintro e w1 ⟨u1, rfl, hO, hx1⟩
  have st1 := ((Ext.refl w).trans hx1)
  have E_1 := E_0.trans st1
  clear E_0
  clear hx1 st1
  have F_1 := (own_rowOf (enc := Value.int .i64) hO (by decide) : Ints _ u1 (freshI 3))
  go_wp2_with fail
  refine (shuffle_ok _ _ [0, 1, 2] [0, 0] _ (by exact ((lit_ints_at w1 3 ([0, 1, 2] : List Int) (by decide) _ (by first | rfl | simp)).ext ((Ext.refl _).alloc _))) (by exact (lit_ints_at _ 3 ([0, 0] : List Int) (by decide) _ (by first | rfl | simp))) (by decide) (by decide)).mono ?_
  rintro e w2 ⟨u2, rfl, hO, hx2⟩
  have st2 := ((((Ext.refl w1).alloc _).alloc _).trans hx2)
  have E_2 := E_1.trans st2
  have F_2 := F_1.ext st2
  clear E_1 F_1
  clear hx2 st2
  have S_2 := (own_rowOf (enc := Value.int .i64) hO (by decide) : Ints _ u2 (shufF [0, 1, 2] [0, 0]))
  go_wp2_with fail
  refine (draws_ok _ _ [0, 1, 2] [1, 2, 0] _ (by exact ((lit_ints_at w2 3 ([0, 1, 2] : List Int) (by decide) _ (by first | rfl | simp)).ext ((Ext.refl _).alloc _))) (by exact (lit_ints_at _ 3 ([1, 2, 0] : List Int) (by decide) _ (by first | rfl | simp))) (by decide) (by decide) (by decide) (by decide) (by decide)).mono ?_
  rintro e w3 ⟨u3, rfl, hI, hx3⟩
  have st3 := ((((Ext.refl w2).alloc _).alloc _).trans hx3)
  have E_3 := E_2.trans st3
  have F_3 := F_2.ext st3
  have S_3 := S_2.ext st3
  clear E_2 F_2 S_2
  clear hx3 st3
  have D_3 := hI
  go_wp2_with fail
  refine (cut_ok _ [4, 5, 6] 1 _ (by exact (lit_ints_at w3 3 ([4, 5, 6] : List Int) (by decide) _ (by first | rfl | simp))) (by decide) (by decide)).mono ?_
  rintro e w4 ⟨u4, rfl, hO, hx4⟩
  have st4 := (((Ext.refl w3).alloc _).trans hx4)
  have E_4 := E_3.trans st4
  have F_4 := F_3.ext st4
  have S_4 := S_3.ext st4
  have D_4 := D_3.ext st4
  clear E_3 F_3 S_3 D_3
  clear hx4 st4
  have C_4 := (own_rowOf (enc := Value.int .i64) hO (by decide) : Ints _ u4 ([4, 5, 6].drop 1 ++ [4, 5, 6].take 1))
  go_wp2_with fail
  refine (deal_ok _ [5, 6, 7] 2 1 2 _ (by exact (lit_ints_at w4 3 ([5, 6, 7] : List Int) (by decide) _ (by first | rfl | simp))) (by decide) (by decide) (by decide) (by decide) (by decide) (by decide)).mono ?_
  rintro e w5 ⟨u5, v5, rfl, hH, hR, hx5⟩
  have st5 := (((Ext.refl w4).alloc _).trans hx5)
  have E_5 := E_4.trans st5
  have F_5 := F_4.ext st5
  have S_5 := S_4.ext st5
  have D_5 := D_4.ext st5
  have C_5 := C_4.ext st5
  clear E_4 F_4 S_4 D_4 C_4
  clear hx5 st5
  have H_5 := hH
  have R_5 := hR
  rw [show handL [5, 6, 7] 2 1 0 = [[5], [6]] from by decide] at H_5
  go_wp2_with fail
  refine (text_ok _ [0, 51] _ (by exact (lit_ints_at w5 3 ([0, 51] : List Int) (by decide) _ (by first | rfl | simp))) (by decide)).mono ?_
  rintro e w6 ⟨rfl, hx6⟩
  have st6 := (((Ext.refl w5).alloc _).trans hx6)
  have E_6 := E_5.trans st6
  have F_6 := F_5.ext st6
  have S_6 := S_5.ext st6
  have D_6 := D_5.ext st6
  have C_6 := C_5.ext st6
  have H_6 := H_5.ext st6
  have R_6 := R_5.ext st6
  clear E_5 F_5 S_5 D_5 C_5 H_5 R_5
  clear hx6 st6
  rw [hjt.out]
  go_wp2_with fail
  refine (read_any _ _ (by exact E_6.shaped hsh) (by decide)).mono ?_
  rintro e w7 hP7
  obtain ⟨u7, he, hP, hx7⟩ := hP7
  rw [hre.out] at he
  subst he
  have hL : Ints w7 u7 [0, 51] := by
    rcases hP with ⟨hb, _⟩ | ⟨_, l, hl, hI⟩
    · exact absurd hre.out hb
    · rw [hro.out] at hl; obtain rfl := Option.some.inj hl; exact hI
  clear hP
  have st7 := ((Ext.refl w6).trans hx7)
  have E_7 := E_6.trans st7
  have F_7 := F_6.ext st7
  have S_7 := S_6.ext st7
  have D_7 := D_6.ext st7
  have C_7 := C_6.ext st7
  have H_7 := H_6.ext st7
  have R_7 := R_6.ext st7
  clear E_6 F_6 S_6 D_6 C_6 H_6 R_6
  clear hx7 st7
  have L_7 := hL
  go_wp2_with fail
  refine (fine_any _ [0, 0, 0, 0, 0, 0, 0] _ (by exact (lit_ints_at w7 _ ([0, 0, 0, 0, 0, 0, 0] : List Int) (by decide) _ (by first | rfl | simp))) true rfl).mono ?_
  rintro e w8 ⟨rfl, hx8⟩
  have st8 := (((Ext.refl w7).alloc _).trans hx8)
  have E_8 := E_7.trans st8
  have F_8 := F_7.ext st8
  have S_8 := S_7.ext st8
  have D_8 := D_7.ext st8
  have C_8 := C_7.ext st8
  have H_8 := H_7.ext st8
  have R_8 := R_7.ext st8
  have L_8 := L_7.ext st8
  clear E_7 F_7 S_7 D_7 C_7 H_7 R_7 L_7
  clear hx8 st8
  go_wp2_with fail
  refine (equal_ints _ _ _ [0, 1, 2] _ (F_8.ext (by exact ((Ext.refl _).alloc _))) (by exact (lit_ints_at w8 _ ([0, 1, 2] : List Int) (by decide) _ (by first | rfl | simp))) true (by show _ = _; decide)).mono ?_
  rintro e w9 ⟨rfl, hx9⟩
  have st9 := (((Ext.refl w8).alloc _).trans hx9)
  have E_9 := E_8.trans st9
  have F_9 := F_8.ext st9
  have S_9 := S_8.ext st9
  have D_9 := D_8.ext st9
  have C_9 := C_8.ext st9
  have H_9 := H_8.ext st9
  have R_9 := R_8.ext st9
  have L_9 := L_8.ext st9
  clear E_8 F_8 S_8 D_8 C_8 H_8 R_8 L_8
  clear hx9 st9
  go_wp2_with fail
  refine (equal_ints _ _ _ [1, 2, 0] _ (S_9.ext (by exact ((Ext.refl _).alloc _))) (by exact (lit_ints_at w9 _ ([1, 2, 0] : List Int) (by decide) _ (by first | rfl | simp))) true (by show _ = _; decide)).mono ?_
  rintro e w10 ⟨rfl, hx10⟩
  have st10 := (((Ext.refl w9).alloc _).trans hx10)
  have E_10 := E_9.trans st10
  have F_10 := F_9.ext st10
  have S_10 := S_9.ext st10
  have D_10 := D_9.ext st10
  have C_10 := C_9.ext st10
  have H_10 := H_9.ext st10
  have R_10 := R_9.ext st10
  have L_10 := L_9.ext st10
  clear E_9 F_9 S_9 D_9 C_9 H_9 R_9 L_9
  clear hx10 st10
  go_wp2_with fail
  refine (equal_ints _ _ _ [0, 0] _ (D_10.ext (by exact ((Ext.refl _).alloc _))) (by exact (lit_ints_at w10 _ ([0, 0] : List Int) (by decide) _ (by first | rfl | simp))) true (by show _ = _; decide)).mono ?_
  rintro e w11 ⟨rfl, hx11⟩
  have st11 := (((Ext.refl w10).alloc _).trans hx11)
  have E_11 := E_10.trans st11
  have F_11 := F_10.ext st11
  have S_11 := S_10.ext st11
  have D_11 := D_10.ext st11
  have C_11 := C_10.ext st11
  have H_11 := H_10.ext st11
  have R_11 := R_10.ext st11
  have L_11 := L_10.ext st11
  clear E_10 F_10 S_10 D_10 C_10 H_10 R_10 L_10
  clear hx11 st11
  go_wp2_with fail
  refine (equal_ints _ _ _ [5, 6, 4] _ (C_11.ext (by exact ((Ext.refl _).alloc _))) (by exact (lit_ints_at w11 _ ([5, 6, 4] : List Int) (by decide) _ (by first | rfl | simp))) true (by show _ = _; decide)).mono ?_
  rintro e w12 ⟨rfl, hx12⟩
  have st12 := (((Ext.refl w11).alloc _).trans hx12)
  have E_12 := E_11.trans st12
  have F_12 := F_11.ext st12
  have S_12 := S_11.ext st12
  have D_12 := D_11.ext st12
  have C_12 := C_11.ext st12
  have H_12 := H_11.ext st12
  have R_12 := R_11.ext st12
  have L_12 := L_11.ext st12
  clear E_11 F_11 S_11 D_11 C_11 H_11 R_11 L_11
  clear hx12 st12
  obtain ⟨hus, hh1, hh2, hh3⟩ := H_12
  obtain ⟨ha, hb, hus2⟩ : ∃ ha hb, hus = [ha, hb] := by
    match hus, hh2 with
    | [a, b], _ => exact ⟨a, b, rfl⟩
  subst hus2
  obtain ⟨ho, hc, hslice, _, _, _, hcells⟩ := hh1
  simp only [List.length_cons, List.length_nil] at hslice
  subst hslice
  obtain ⟨bb, oo, rfl, hcell⟩ := hcells 1 hb rfl
  have hB := hh3 1 hb [6] rfl rfl
  clear hh3 hcells
  go_wp2_with fail
  refine (equal_ints _ _ _ [6] _ (hB.ext (by exact ((Ext.refl _).alloc _))) (by exact (lit_ints_at w12 _ ([6] : List Int) (by decide) _ (by first | rfl | simp))) true (by show _ = _; decide)).mono ?_
  rintro e w13 ⟨rfl, hx13⟩
  have st13 := (((Ext.refl w12).alloc _).trans hx13)
  have E_13 := E_12.trans st13
  have F_13 := F_12.ext st13
  have S_13 := S_12.ext st13
  have D_13 := D_12.ext st13
  have C_13 := C_12.ext st13
  have R_13 := R_12.ext st13
  have L_13 := L_12.ext st13
  clear E_12 F_12 S_12 D_12 C_12 R_12 L_12
  clear hx13 st13
  go_wp2_with fail
  refine (equal_ints _ _ _ [7] _ (R_13.ext (by exact ((Ext.refl _).alloc _))) (by exact (lit_ints_at w13 _ ([7] : List Int) (by decide) _ (by first | rfl | simp))) true (by show _ = _; decide)).mono ?_
  rintro e w14 ⟨rfl, hx14⟩
  have st14 := (((Ext.refl w13).alloc _).trans hx14)
  have E_14 := E_13.trans st14
  have F_14 := F_13.ext st14
  have S_14 := S_13.ext st14
  have D_14 := D_13.ext st14
  have C_14 := C_13.ext st14
  have R_14 := R_13.ext st14
  have L_14 := L_13.ext st14
  clear E_13 F_13 S_13 D_13 C_13 R_13 L_13
  clear hx14 st14
  go_wp2_with fail
  refine (equal_ints _ _ _ [0, 51] _ (L_14.ext (by exact ((Ext.refl _).alloc _))) (by exact (lit_ints_at w14 _ ([0, 51] : List Int) (by decide) _ (by first | rfl | simp))) true (by show _ = _; decide)).mono ?_
  rintro e w15 ⟨rfl, hx15⟩
  have st15 := (((Ext.refl w14).alloc _).trans hx15)
  have E_15 := E_14.trans st15
  have F_15 := F_14.ext st15
  have S_15 := S_14.ext st15
  have D_15 := D_14.ext st15
  have C_15 := C_14.ext st15
  have R_15 := R_14.ext st15
  have L_15 := L_14.ext st15
  clear E_14 F_14 S_14 D_14 C_14 R_14 L_14
  clear hx15 st15
  go_wp2_with fail
  refine (check_any _ [1, 1] _ (by exact (lit_ints_at w15 _ ([1, 1] : List Int) (by decide) _ (by first | rfl | simp)))).mono ?_
  rintro e w' ⟨rfl, rfl⟩
  rw [hck]
  go_wp2_with fail
  refine (fits_any 2 (.slice none 0 0) [] _ (by exact Row.nil _) (by omega)).mono ?_
  rintro e w' ⟨rfl, rfl⟩
  rw [hft]
  go_wp2_with fail
  go_ret
  exact ⟨rfl, E_15.alloc _⟩
end Go.Proofs.YtllhgkacbpgemaaDoor
