/- the walk of ReplyValues -/
import Derived.Test.YtcggohkbmhdohaaGreatDoorRpI
import Derived.Test.YtcggohkbmhdohaaGreatDoorRpPR
namespace Go.Proofs.YtcggohkbmhdohaaGreatDoor
open Go.RowKit
set_option linter.unusedVariables false
theorem StrRow.two {w : World} {u u2 : Value} {S S2 : List Ch} (h : StrIn w u S) (h2 : StrIn w u2 S2) (hz : StrSz S) (hz2 : StrSz S2) (e : TypeId) (k : Nat) (hk : k = w.heap.size) : StrRow (w.alloc (.cells #[u, u2] e)) (.slice (some ⟨k, 0, none⟩) 2 2) [S, S2] := by
 subst hk
 refine ⟨_, _, rfl, by simp, fun j S3 hj => ?_⟩
 match j, hj with
 | 0, hj =>
   cases hj
   exact ⟨_, _, u, rfl, by simp [World.cell?_alloc_new], h.ext ((Ext.refl w).alloc _), hz⟩
 | 1, hj =>
   cases hj
   exact ⟨_, _, u2, rfl, by simp [World.cell?_alloc_new], h2.ext ((Ext.refl w).alloc _), hz2⟩
theorem bothE_tree {T : List Nd} {S0 S1 : List Ch} (h : bothE T S0 S1 = 0) : treeE T = 0 := by
 unfold bothE at h
 by_cases h0 : treeE T = 0
 · exact h0
 · rw [if_pos h0] at h; exact absurd h h0
set_option maxHeartbeats 6400000 in
set_option maxRecDepth 100000 in
theorem replyValues_err (v a b : Value) (T : List Nd) (S0 S1 : List Ch) (w : World) (hE : bothE T S0 S1 ≠ 0) (hv : TreeIn w v T) (hz : TreeSz T) (ha : StrIn w a S0) (hb : StrIn w b S1) (hz0 : StrSz S0) (hz1 : StrSz S1) (htab : TabPow w) :
 Calls Tryz.prog 3 #[v, a, b] w fun e w' => e = .returned (.bool true) ∧ Ext w w' := by
 have HF := Lib.hid (replyFact_any w htab)
 have HW := Lib.hid (fun W (hX : Ext w W) => treeWeight_any v T W (hv.ext hX))
 have HC0 := Lib.hid (fun W (hX : Ext w W) => choiceWeight_any a S0 W (ha.ext hX))
 have HC1 := Lib.hid (fun W (hX : Ext w W) => choiceWeight_any b S1 W (hb.ext hX))
 have HMI := Lib.hid (fun W (hX : Ext w W) => mild_any v T W (hv.ext hX) hz)
 have HV := Lib.hid (fun W (hX : Ext w W) => replyValue_any v a b T S0 S1 W (tabPow_ext htab hX) (hv.ext hX) hz (ha.ext hX) (hb.ext hX) hz0 hz1)
 have HO := Lib.hid (fun W (hX : Ext w W) => replyOdds_any v a b T S0 S1 W (tabPow_ext htab hX) (hv.ext hX) hz (ha.ext hX) (hb.ext hX) hz0 hz1)
 have HTE := Lib.hid (fun W (hX : Ext w W) => rTreeError_any v T W (hv.ext hX) hz)
 have HS0 := Lib.hid (fun W (hX : Ext w W) => rStrategyError_any v a T 0 S0 W (hv.ext hX) (ha.ext hX) hz0)
 have HS1 := Lib.hid (fun W (hX : Ext w W) => rStrategyError_any v b T 1 S1 W (hv.ext hX) (hb.ext hX) hz1)
 have HCH := Lib.hid (fun W (hX : Ext w W) => replyCheck_any v a b T S0 S1 W (tabPow_ext htab hX) (hv.ext hX) hz (ha.ext hX) (hb.ext hX) hz0 hz1)
 unfold bothE at hE
 obtain ⟨M, hM⟩ : ∃ M, mildB T = M := ⟨_, rfl⟩
 rw [hM] at HMI
 obtain ⟨ao, c, rfl, _, _⟩ := hv.open
 obtain ⟨so, sc, rfl, _, _⟩ := ha.open
 obtain ⟨ro, rc, rfl, _, _⟩ := hb.open
 obtain ⟨ET, hET⟩ : ∃ ET, treeE T = ET := ⟨_, rfl⟩
 obtain ⟨E0, hE0⟩ : ∃ E0, strategyE T 0 S0 = E0 := ⟨_, rfl⟩
 obtain ⟨E1, hE1⟩ : ∃ E1, strategyE T 1 S1 = E1 := ⟨_, rfl⟩
 obtain ⟨E, hEE⟩ : ∃ E, bothE T S0 S1 = E := ⟨_, rfl⟩
 have HBE := Lib.hid hEE
 unfold bothE at hEE
 rw [hET] at HTE hE hEE
 rw [hE0] at HS0 hE hEE
 rw [hE1] at HS1 hE hEE
 rw [HBE.out] at HCH
 rw [hEE] at hE
 clear hET hE0 hE1 hM hv ha hb hz hz0 hz1 htab
 by_cases hT0 : ET = 0
 · subst hT0
   rw [if_neg (by simp)] at hEE
   have HFI : Hid (firstF [E0, E1] = E) := by
    show (if E0 ≠ 0 then E0 else if E1 ≠ 0 then E1 else 0) = E
    by_cases h0 : E0 = 0
    · rw [if_neg (by simpa using h0)] at hEE ⊢
      subst hEE
      by_cases h1 : E1 = 0
      · rw [if_neg (by simpa using h1), h1]
      · rw [if_pos h1]
    · rw [if_pos h0] at hEE ⊢
      exact hEE
   have hbn : (E != 0) = true := by rw [bne_iff_ne]; exact hE
   clear hEE
   go_enter Tryz.func3, Tryz.ntmps3
   go_wp2_with fail
   refine HF.out.mono ?_
   rintro e w1 ⟨rfl, X1⟩
   go_wp2_with fail
   refine (HW.out _ X1).mono ?_
   rintro e w2 ⟨n1, rfl, X2⟩
   have Y2 := X1.trans X2
   clear X1 X2
   go_wp2_with fail
   refine (HC0.out _ Y2).mono ?_
   rintro e w3 ⟨n2, rfl, X3⟩
   have Y3 := Y2.trans X3
   clear Y2 X3
   go_wp2_with fail
   refine (HC1.out _ Y3).mono ?_
   rintro e w4 ⟨n3, rfl, X4⟩
   have Y4 := Y3.trans X4
   clear Y3 X4
   by_cases hw : (6000 : Int) < wrap64 (wrap64 (n1 + n2) + n3)
   · go_wp2_with fail
     go_ret
     exact ⟨rfl, Y4⟩
   go_wp2_with fail
   refine (HMI.out _ Y4).mono ?_
   rintro e w5 ⟨rfl, X5⟩
   have Y5 := Y4.trans X5
   clear Y4 X5
   cases M with
   | false =>
     go_wp2_with fail
     go_ret
     exact ⟨rfl, Y5⟩
   | true =>
   go_wp2_with fail
   refine (HV.out _ Y5).mono ?_
   rintro e w6 ⟨r6, rfl, h6, X6⟩
   have HR6 := h6
   unfold ValPost at HR6
   rw [HBE.out] at HR6
   rcases HR6 with ⟨_, rfl⟩ | ⟨h, _⟩
   rotate_left
   · exact absurd h hE
   have Y6 := Y5.trans X6
   clear h6 X6 Y5
   go_wp2_with fail
   refine (HO.out _ Y6).mono ?_
   rintro e w7 ⟨r7, rfl, h7, X7⟩
   have HR7 := h7
   unfold OddPost at HR7
   rw [HBE.out] at HR7
   rcases HR7 with ⟨_, rfl⟩ | ⟨h, _⟩
   rotate_left
   · exact absurd h hE
   have Y7 := Y6.trans X7
   clear h7 X7 Y6
   go_wp2_with fail
   refine (HTE.out _ Y7).mono ?_
   rintro e w8 ⟨rfl, X8⟩
   have Y8 := Y7.trans X8
   clear X8 Y7
   go_wp2_with fail
   refine (HS0.out _ Y8).mono ?_
   rintro e w9 ⟨rfl, X9⟩
   have Y9 := Y8.trans X9
   clear X9 Y8
   go_wp2_with fail
   refine (HS1.out _ Y9).mono ?_
   rintro e w10 ⟨rfl, X10⟩
   have Y10 := Y9.trans X10
   clear X10 Y9
   go_wp2_with fail
   refine (first_any _ [E0, E1] _ (by exact lit_ints_at w10 _ ([E0, E1] : List Int) (by simp) _ (by first | rfl | simp)) E HFI.out).mono ?_
   rintro e w11 ⟨rfl, hw11⟩
   have Y9 := Y10.trans (by rw [← hw11]; exact (Ext.refl w10).alloc _ : Ext w10 w11)
   clear hw11 Y10
   go_wp2_with fail
   refine (HCH.out _ Y9).mono ?_
   rintro e w12 ⟨rfl, X12⟩
   have Y12 := Y9.trans X12
   clear X12 Y9
   go_wp2_with fail
   go_ret
   exact ⟨rfl, Y12⟩
 · have hbn : (ET == 0) = false := by rw [beq_eq_false_iff_ne]; exact hT0
   have hbn2 : (ET != 0) = true := by rw [bne_iff_ne]; exact hT0
   rw [if_pos hT0] at hEE
   subst hEE
   go_enter Tryz.func3, Tryz.ntmps3
   go_wp2_with fail
   refine HF.out.mono ?_
   rintro e w1 ⟨rfl, X1⟩
   go_wp2_with fail
   refine (HW.out _ X1).mono ?_
   rintro e w2 ⟨n1, rfl, X2⟩
   have Y2 := X1.trans X2
   clear X1 X2
   go_wp2_with fail
   refine (HC0.out _ Y2).mono ?_
   rintro e w3 ⟨n2, rfl, X3⟩
   have Y3 := Y2.trans X3
   clear Y2 X3
   go_wp2_with fail
   refine (HC1.out _ Y3).mono ?_
   rintro e w4 ⟨n3, rfl, X4⟩
   have Y4 := Y3.trans X4
   clear Y3 X4
   by_cases hw : (6000 : Int) < wrap64 (wrap64 (n1 + n2) + n3)
   · go_wp2_with fail
     go_ret
     exact ⟨rfl, Y4⟩
   go_wp2_with fail
   refine (HMI.out _ Y4).mono ?_
   rintro e w5 ⟨rfl, X5⟩
   have Y5 := Y4.trans X5
   clear Y4 X5
   cases M with
   | false =>
     go_wp2_with fail
     go_ret
     exact ⟨rfl, Y5⟩
   | true =>
   go_wp2_with fail
   refine (HV.out _ Y5).mono ?_
   rintro e w6 ⟨r6, rfl, h6, X6⟩
   have HR6 := h6
   unfold ValPost at HR6
   rw [HBE.out] at HR6
   rcases HR6 with ⟨_, rfl⟩ | ⟨h, _⟩
   rotate_left
   · exact absurd h hE
   have Y6 := Y5.trans X6
   clear h6 X6 Y5
   go_wp2_with fail
   refine (HO.out _ Y6).mono ?_
   rintro e w7 ⟨r7, rfl, h7, X7⟩
   have HR7 := h7
   unfold OddPost at HR7
   rw [HBE.out] at HR7
   rcases HR7 with ⟨_, rfl⟩ | ⟨h, _⟩
   rotate_left
   · exact absurd h hE
   have Y7 := Y6.trans X7
   clear h7 X7 Y6
   go_wp2_with fail
   refine (HTE.out _ Y7).mono ?_
   rintro e w8 ⟨rfl, X8⟩
   have Y8 := Y7.trans X8
   clear X8 Y7
   have Y9 := Y8
   clear Y8
   go_wp2_with fail
   refine (HCH.out _ Y9).mono ?_
   rintro e w12 ⟨rfl, X12⟩
   have Y12 := Y9.trans X12
   clear X12 Y9
   go_wp2_with fail
   go_ret
   exact ⟨rfl, Y12⟩
set_option maxHeartbeats 6400000 in
set_option maxRecDepth 100000 in
theorem replyValues_good (v a b : Value) (T : List Nd) (S0 S1 : List Ch) (w : World) (hE : bothE T S0 S1 = 0) (hv : TreeIn w v T) (hz : TreeSz T) (ha : StrIn w a S0) (hb : StrIn w b S1) (hz0 : StrSz S0) (hz1 : StrSz S1) (htab : TabPow w) :
 Calls Tryz.prog 3 #[v, a, b] w fun e w' => e = .returned (.bool true) ∧ Ext w w' := by
 have HF := Lib.hid (replyFact_any w htab)
 have HW := Lib.hid (fun W (hX : Ext w W) => treeWeight_any v T W (hv.ext hX))
 have HC0 := Lib.hid (fun W (hX : Ext w W) => choiceWeight_any a S0 W (ha.ext hX))
 have HC1 := Lib.hid (fun W (hX : Ext w W) => choiceWeight_any b S1 W (hb.ext hX))
 have HMI := Lib.hid (fun W (hX : Ext w W) => mild_any v T W (hv.ext hX) hz)
 have HV := Lib.hid (fun W (hX : Ext w W) => replyValue_any v a b T S0 S1 W (tabPow_ext htab hX) (hv.ext hX) hz (ha.ext hX) (hb.ext hX) hz0 hz1)
 have HO := Lib.hid (fun W (hX : Ext w W) => replyOdds_any v a b T S0 S1 W (tabPow_ext htab hX) (hv.ext hX) hz (ha.ext hX) (hb.ext hX) hz0 hz1)
 have HTE := Lib.hid (fun W (hX : Ext w W) => rTreeError_any v T W (hv.ext hX) hz)
 have HS0 := Lib.hid (fun W (hX : Ext w W) => rStrategyError_any v a T 0 S0 W (hv.ext hX) (ha.ext hX) hz0)
 have HS1 := Lib.hid (fun W (hX : Ext w W) => rStrategyError_any v b T 1 S1 W (hv.ext hX) (hb.ext hX) hz1)
 have HCH := Lib.hid (fun W (hX : Ext w W) => replyCheck_any v a b T S0 S1 W (tabPow_ext htab hX) (hv.ext hX) hz (ha.ext hX) (hb.ext hX) hz0 hz1)
 have hB := bothE_zero hE
 have HBE := Lib.hid hE
 have HSR := Lib.hid (fun e W k (hX : Ext w W) (hk : k = W.heap.size) => StrRow.two (ha.ext hX) (hb.ext hX) hz0 hz1 e k hk)
 have HTA := Lib.hid (fun v2 W (h : StrRow W v2 [S0, S1]) => tame_any v2 [S0, S1] W h)
 obtain ⟨tm, htm⟩ : ∃ tm, [S0, S1].all tameB = tm := ⟨_, rfl⟩
 rw [htm] at HTA
 have HTM : Hid (tm = true → tameB S0 = true ∧ tameB S1 = true) := fun ht => by
  rw [ht] at htm
  simpa using htm
 obtain ⟨M, hM⟩ : ∃ M, mildB T = M := ⟨_, rfl⟩
 by_cases hm : mildB T = true
 rotate_left
 · have hm2 : mildB T = false := by simpa using hm
   rw [hm2] at HMI
   obtain ⟨ao, c, rfl, _, _⟩ := hv.open
   obtain ⟨so, sc, rfl, _, _⟩ := ha.open
   obtain ⟨ro, rc, rfl, _, _⟩ := hb.open
   clear hm hm2 hM htm hB hE hv ha hb hz hz0 hz1 htab
   go_enter Tryz.func3, Tryz.ntmps3
   go_wp2_with fail
   refine HF.out.mono ?_
   rintro e w1 ⟨rfl, X1⟩
   go_wp2_with fail
   refine (HW.out _ X1).mono ?_
   rintro e w2 ⟨n1, rfl, X2⟩
   have Y2 := X1.trans X2
   clear X1 X2
   go_wp2_with fail
   refine (HC0.out _ Y2).mono ?_
   rintro e w3 ⟨n2, rfl, X3⟩
   have Y3 := Y2.trans X3
   clear Y2 X3
   go_wp2_with fail
   refine (HC1.out _ Y3).mono ?_
   rintro e w4 ⟨n3, rfl, X4⟩
   have Y4 := Y3.trans X4
   clear Y3 X4
   by_cases hw : (6000 : Int) < wrap64 (wrap64 (n1 + n2) + n3)
   · go_wp2_with fail
     go_ret
     exact ⟨rfl, Y4⟩
   go_wp2_with fail
   refine (HMI.out _ Y4).mono ?_
   rintro e w5 ⟨rfl, X5⟩
   have Y5 := Y4.trans X5
   clear Y4 X5
   go_wp2_with fail
   go_ret
   exact ⟨rfl, Y5⟩
 have HOU : Hid (tm = true → outsG ((List.range T.length).map (chanceT T (givG true true S0 S1))) = some (((List.range T.length).map (chanceT T (givG true true S0 S1))).map ratT)) := fun ht => both_outs hB hm (tame_small (HTM.out ht).1) (tame_small (HTM.out ht).2)
 obtain ⟨x0, hx0⟩ : ∃ x, T[0]? = some x := ⟨T[0]'hB.v.pos, List.getElem?_eq_getElem hB.v.pos⟩
 have HOV : Hid (tm = true → outF (valT T (bothG S0 S1) 0) = (ratT (valT T (bothG S0 S1) 0), 0)) := fun ht => outF_RB (both_sizes hB hm (tame_small (HTM.out ht).1) (tame_small (HTM.out ht).2) hx0).1 (by omega)
 have HRVA : Hid (tm = true → ∀ W, Ext w W → Calls Tryz.prog 18 #[v, .int .i64 0, .agg #[a, b]] W fun e w' => e = .returned (.string (ratT (valT T (bothG S0 S1) 0))) ∧ Ext W w') := fun ht W hX => rValue_any v a b T S0 S1 hB hm (tame_small (HTM.out ht).1) (tame_small (HTM.out ht).2) T.length 0 W (by omega) hB.v.pos (hv.ext hX) (ha.ext hX) (hb.ext hX)
 have HRC := Lib.hid (fun (k : Nat) (hk : k < T.length) W (hX : Ext w W) => rChance_any v a b true true T S0 S1 k W (hv.ext hX) hB.v hk (ha.ext hX) (hb.ext hX) (fun _ => fit_of hB.v hB.s0) (fun _ => fit_of hB.v hB.s1))
 obtain ⟨ao, c, rfl, _, _⟩ := hv.open
 obtain ⟨so, sc, rfl, _, _⟩ := ha.open
 obtain ⟨ro, rc, rfl, _, _⟩ := hb.open
 rw [hM] at HMI
 have h3 := bothE_tree hE
 rw [h3] at HTE
 rw [hB.s0] at HS0
 rw [hB.s1] at HS1
 rw [hE] at HCH
 have hT2 := hB.v.len
 clear h3 hM hm htm hB hE hv ha hb hz hz0 hz1 htab hx0
 go_enter Tryz.func3, Tryz.ntmps3
 go_wp2_with fail
 refine HF.out.mono ?_
 rintro e w1 ⟨rfl, X1⟩
 go_wp2_with fail
 refine (HW.out _ X1).mono ?_
 rintro e w2 ⟨n1, rfl, X2⟩
 have Y2 := X1.trans X2
 clear X1 X2
 go_wp2_with fail
 refine (HC0.out _ Y2).mono ?_
 rintro e w3 ⟨n2, rfl, X3⟩
 have Y3 := Y2.trans X3
 clear Y2 X3
 go_wp2_with fail
 refine (HC1.out _ Y3).mono ?_
 rintro e w4 ⟨n3, rfl, X4⟩
 have Y4 := Y3.trans X4
 clear Y3 X4
 by_cases hw : (6000 : Int) < wrap64 (wrap64 (n1 + n2) + n3)
 · go_wp2_with fail
   go_ret
   exact ⟨rfl, Y4⟩
 go_wp2_with fail
 refine (HMI.out _ Y4).mono ?_
 rintro e w5 ⟨rfl, X5⟩
 have Y5 := Y4.trans X5
 clear Y4 X5
 cases M with
 | false =>
   go_wp2_with fail
   go_ret
   exact ⟨rfl, Y5⟩
 | true =>
 go_wp2_with fail
 refine (HV.out _ Y5).mono ?_
 rintro e w6 ⟨r6, rfl, h6, X6⟩
 have HR6 := h6
 unfold ValPost at HR6
 rw [HBE.out] at HR6
 rcases HR6 with ⟨h, _⟩ | ⟨_, rfl⟩
 · exact absurd rfl h
 have Y6 := Y5.trans X6
 clear h6 X6 Y5
 go_wp2_with fail
 refine (HO.out _ Y6).mono ?_
 rintro e w7 ⟨r7, rfl, h7, X7⟩
 have HR7 : Hid (∃ (a7 : Value) (c7 : Int), r7 = .tuple #[a7, .int .i64 c7] ∧ (tm = true → c7 = 0 ∧ Strs w7 a7 (((List.range T.length).map (chanceT T (givG true true S0 S1))).map ratT))) := by
  unfold OddPost at h7
  rw [HBE.out] at h7
  rcases h7 with ⟨h, _⟩ | ⟨_, ⟨h, rfl⟩ | ⟨os, x, ho, rfl, hx⟩⟩
  · exact absurd rfl h
  · exact ⟨_, _, rfl, fun ht => (by rw [HOU.out ht] at h; cases h)⟩
  · exact ⟨_, _, rfl, fun ht => ⟨rfl, by rw [HOU.out ht] at ho; rw [Option.some.inj ho]; exact hx⟩⟩
 obtain ⟨a7, c7, rfl, h7'⟩ := HR7.out
 have HA7 := Lib.hid h7'
 have Y7 := Y6.trans X7
 clear h7 h7' X7 Y6 HR7
 go_wp2_with fail
 refine (HTE.out _ Y7).mono ?_
 rintro e w8 ⟨rfl, X8⟩
 have Y8 := Y7.trans X8
 have HX8 := Lib.hid X8
 clear X8 Y7
 go_wp2_with fail
 refine (HS0.out _ Y8).mono ?_
 rintro e w9 ⟨rfl, X9⟩
 have Y9 := Y8.trans X9
 have HX9 := Lib.hid (HX8.out.trans X9)
 clear X9 Y8 HX8
 go_wp2_with fail
 refine (HS1.out _ Y9).mono ?_
 rintro e w10 ⟨rfl, X10⟩
 have Y10 := Y9.trans X10
 have HX10 := Lib.hid (HX9.out.trans X10)
 clear X10 Y9 HX9
 go_wp2_with fail
 refine (first_any _ [0, 0] _ (by exact lit_ints_at w10 _ ([0, 0] : List Int) (by decide) _ (by first | rfl | simp)) 0 rfl).mono ?_
 rintro e w11 ⟨rfl, hw11⟩
 have Z11 : Ext w10 w11 := by rw [← hw11]; exact (Ext.refl w10).alloc _
 have Y11 := Y10.trans Z11
 have HX11 := Lib.hid (HX10.out.trans Z11)
 clear hw11 Y10 Z11 HX10
 go_wp2_with fail
 refine (HCH.out _ Y11).mono ?_
 rintro e w12 ⟨rfl, X12⟩
 have Y12 := Y11.trans X12
 have HX12 := Lib.hid (HX11.out.trans X12)
 clear X12 Y11 HX11
 go_wp2_with fail
 refine (HTA.out _ _ (by exact HSR.out _ w12 _ Y12 (by first | rfl | simp))).mono ?_
 rintro e w13 ⟨rfl, X13⟩
 have Z13 := ((Ext.refl w12).alloc _).trans X13
 have Y13 := Y12.trans Z13
 have HX13 := Lib.hid (HX12.out.trans Z13)
 clear X13 Y12 Z13 HX12
 cases tm with
 | false =>
   go_wp2_with fail
   go_ret
   exact ⟨rfl, Y13⟩
 | true =>
 obtain ⟨rfl, ha7⟩ := HA7.out rfl
 have HOF := HOV.out rfl
 rw [HOF]
 obtain ⟨oo, oc, rfl, hol, hoc⟩ := ha7.open
 have hll : (((List.range T.length).map (chanceT T (givG true true S0 S1))).map ratT).length = T.length := by rw [List.length_map, List.length_map, List.length_range]
 rw [hll]
 have HOC := Lib.hid (hoc.ext HX13.out)
 have HRV := Lib.hid (HRVA.out rfl)
 obtain ⟨K, hK⟩ : ∃ K, w13.heap.size = K := ⟨_, rfl⟩
 obtain ⟨W14, hW14⟩ : ∃ W14, w13.alloc (.cells #[.slice so S0.length sc, .slice ro S1.length rc] 40) = W14 := ⟨_, rfl⟩
 have X14 : Ext w13 W14 := by rw [← hW14]; exact (Ext.refl w13).alloc _
 have k0 : W14.cell? ⟨K, 0, none⟩ = some (.slice so S0.length sc) := by rw [← hW14, ← hK]; simp [go_sem]
 have k1 : W14.cell? ⟨K, 1, none⟩ = some (.slice ro S1.length rc) := by rw [← hW14, ← hK]; simp [go_sem]
 have Y14 := Lib.hid (Y13.trans X14)
 have HOC14 := Lib.hid (HOC.out.ext X14)
 clear ha7 hoc hol HX13 X14 Y13 HA7 HOC hll HOF
 go_wp2_with fail
 refine (HRV.out _ Y14.out).mono ?_
 rintro e w15 ⟨rfl, X15⟩
 have k0 := X15.cell k0
 have k1 := X15.cell k1
 have Y15 := Lib.hid (Y14.out.trans X15)
 have HOC15 := Lib.hid (HOC14.out.ext X15)
 clear X15 Y14 HOC14 hW14
 go_wp2_with fail
 clear hK
 go_loopw [109] (fun iv wr => ∃ (i : Nat), i ≤ T.length ∧ iv = .int .i64 i ∧ Ext w15 wr) (fun iv _ => T.length - (intOf iv).toNat)
 case atStart => exact ⟨0, Nat.zero_le _, rfl, Ext.refl _⟩
 case round =>
  obtain ⟨i, hi, rfl, X⟩ := hrel
  obtain ⟨wq, rfl⟩ : ∃ wq : World, wq = wr := ⟨_, rfl⟩
  by_cases hlt : i < T.length
  · have hti : (((List.range T.length).map (chanceT T (givG true true S0 S1))).map ratT)[i]? = some (ratT (chanceT T (givG true true S0 S1) i)) := by
     rw [List.getElem?_map, List.getElem?_map, List.getElem?_range hlt]; rfl
    obtain ⟨ob, ooff, rfl, o0⟩ := (HOC15.out.ext X).at hti
    have o0 : wq.cell? ⟨ob, ooff + i, none⟩ = some (.string (ratT (chanceT T (givG true true S0 S1) i))) := o0
    have hii : (i : Int) < (T.length : Int) := by omega
    have h00 : (0 : Int) ≤ (i : Int) := by omega
    have HCC := Lib.hid (HRC.out i hlt)
    have k0 := X.cell k0
    have k1 := X.cell k1
    obtain ⟨q, hq⟩ : ∃ q, ratT (chanceT T (givG true true S0 S1) i) = q := ⟨_, rfl⟩
    rw [hq] at o0 HCC
    clear hlt hti hq
    go_wp2_with fail
    go_region_held3 (fun W9 => W9.cell? ⟨ob, ooff + i, none⟩ = some (.string q) ∧ W9.cell? ⟨K, 0, none⟩ = some (.slice so S0.length sc) ∧ W9.cell? ⟨K, 1, none⟩ = some (.slice ro S1.length rc))
     (first | exact ⟨o0, k0, k1⟩ | exact ⟨X5.cell o0, X5.cell k0, X5.cell k1⟩ | go_keep)
     ((go_at_call 19; refine (HCC.out _ (by exact (Y15.out.trans X).drew)).mono ?_; rintro e w5 ⟨rfl, Y5⟩; have X5 : Ext wq w5 := Ext.trans ((Ext.refl wq).drew) Y5))
    all_goals
     have XN := X.trans X5
     clear o0 k0 k1
     go_wp2_with fail
     go_roundw
     case rel => exact ⟨i + 1, by omega, by go_num, XN⟩
     case measure => simp [intOf] <;> omega
  · have hge : ¬ (i : Int) < (T.length : Int) := by omega
    clear hlt
    go_wp2_with fail
    go_ret
    exact ⟨rfl, Y15.out.trans X⟩
theorem replyValues_walk (v a b : Value) (T : List Nd) (S0 S1 : List Ch) (w : World) (hv : TreeIn w v T) (hz : TreeSz T) (ha : StrIn w a S0) (hb : StrIn w b S1) (hz0 : StrSz S0) (hz1 : StrSz S1) (htab : TabPow w) :
 Calls Tryz.prog 3 #[v, a, b] w fun e w' => e = .returned (.bool true) ∧ Ext w w' := by
 by_cases hE : bothE T S0 S1 = 0
 · exact replyValues_good v a b T S0 S1 w hE hv hz ha hb hz0 hz1 htab
 · exact replyValues_err v a b T S0 S1 w hE hv hz ha hb hz0 hz1 htab
end Go.Proofs.YtcggohkbmhdohaaGreatDoor
