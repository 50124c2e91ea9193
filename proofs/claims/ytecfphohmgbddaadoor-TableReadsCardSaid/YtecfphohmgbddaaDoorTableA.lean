/- walks: table.At; tableFact -/
import Derived.Test.YtecfphohmgbddaaDoorTableP
namespace Go.Proofs.YtecfphohmgbddaaDoor
open Go.RowKit
set_option linter.unusedVariables false

/-- what At answers -/
def atF (s : ByteArray) (i : Int) : Int × Int :=
  if (unpF s).1 ≠ 0 then (0, (unpF s).1) else if i < 0 ∨ ((unpF s).2.length : Int) ≤ i then (0, 4) else ((unpF s).2.getD i.toNat 0, 0)

set_option maxHeartbeats 800000 in
set_option maxRecDepth 100000 in
theorem at_any (s : ByteArray) (i : Int) (w : World) (hs : s.size ≤ 140737488355328) (HV : StrV w) (a z : Int) (hz : Hid (atF s i = (a, z))) :
    Calls Tryd.prog 6 #[.string s, .int .i64 i] w fun e w' => e = .returned (.tuple #[.int .i64 a, .int .i64 z]) ∧ Ext w w' := by
  have HU := Lib.hid (unpack_any s w hs HV)
  have hz2 := hz.out
  rw [atF] at hz2
  clear HV hz
  obtain ⟨q, hq⟩ : ∃ q, (unpF s).1 = q := ⟨_, rfl⟩
  obtain ⟨l, hl⟩ : ∃ l, (unpF s).2 = l := ⟨_, rfl⟩
  rw [hq, hl] at hz2
  have HQ := Lib.hid hq
  have HL := Lib.hid hl
  clear hq hl
  by_cases h0 : q = 0
  · subst h0
    rw [if_neg (by simp)] at hz2
    by_cases hi : i < 0
    · rw [if_pos (.inl hi)] at hz2
      simp only [Prod.mk.injEq] at hz2
      obtain ⟨rfl, rfl⟩ := hz2
      go_enter Tryd.func6, Tryd.ntmps6
      go_wp2_with fail
      refine HU.out.mono ?_
      rintro e w1 ⟨v, rfl, X1, HI⟩
      rw [HQ.out]
      rw [HL.out] at HI
      obtain ⟨ao, c, rfl, hlen, hc⟩ := HI.open
      clear HI
      go_wp2_with fail
      go_ret2
      exact ⟨rfl, X1⟩
    · obtain ⟨k, rfl⟩ := Int.eq_ofNat_of_zero_le (show 0 ≤ i by omega)
      by_cases hk : k < l.length
      · rw [if_neg (by omega)] at hz2
        obtain ⟨x, x1, x2, _⟩ := get_lt hk
        have hx : l.getD k 0 = x := by rw [List.getD, x1.out]; rfl
        simp only [Prod.mk.injEq, Int.toNat_natCast, hx] at hz2
        obtain ⟨rfl, rfl⟩ := hz2
        have hki : (k : Int) < (l.length : Int) := by omega
        clear hx hi
        go_enter Tryd.func6, Tryd.ntmps6
        go_wp2_with fail
        refine HU.out.mono ?_
        rintro e w1 ⟨v, rfl, X1, HI⟩
        rw [HQ.out]
        rw [HL.out] at HI
        obtain ⟨ao, c, rfl, hlen, hc⟩ := HI.open
        obtain ⟨b, off, rfl, hcell⟩ := hc.at x1
        clear HI hc
        go_wp2_with fail
        go_ret2
        exact ⟨rfl, X1⟩
      · rw [if_pos (.inr (by omega))] at hz2
        simp only [Prod.mk.injEq] at hz2
        obtain ⟨rfl, rfl⟩ := hz2
        have hki : (l.length : Int) ≤ (k : Int) := by omega
        clear hi
        go_enter Tryd.func6, Tryd.ntmps6
        go_wp2_with fail
        refine HU.out.mono ?_
        rintro e w1 ⟨v, rfl, X1, HI⟩
        rw [HQ.out]
        rw [HL.out] at HI
        obtain ⟨ao, c, rfl, hlen, hc⟩ := HI.open
        clear HI
        go_wp2_with fail
        go_ret2
        exact ⟨rfl, X1⟩
  · rw [if_pos h0] at hz2
    simp only [Prod.mk.injEq] at hz2
    obtain ⟨rfl, rfl⟩ := hz2
    have hqb : (q != 0) = true := by simp [h0]
    clear h0
    go_enter Tryd.func6, Tryd.ntmps6
    go_wp2_with fail
    refine HU.out.mono ?_
    rintro e w1 ⟨v, rfl, X1, HI⟩
    rw [HQ.out]
    clear HI
    go_wp2_with fail
    go_ret2
    exact ⟨rfl, X1⟩

set_option maxHeartbeats 3200000 in
set_option maxRecDepth 100000 in
theorem tableFact_any (w : World) (HV : StrV w) : TFact w := by
  show Calls _ _ _ _ _
  have hp : Hid (tblErr [7, 7, 0] = 0) := by show _ = _; decide
  obtain ⟨T, hT⟩ : ∃ T, tabT [7, 7, 0] = T := ⟨_, rfl⟩
  have HP := Lib.hid (fun v W (hx : Ext w W) (hv : Ints W v [7, 7, 0]) => pack_any v [7, 7, 0] W hv hp (HV.ext hx).tab)
  have hu : unpF T = (0, [7, 7, 0]) := by rw [← hT]; decide +kernel
  have ha : Hid (atF T 1 = (7, 0)) := by show _ = _; rw [← hT]; decide +kernel
  have hts : T.size = 15 := by rw [← hT]; decide +kernel
  have hte : T.extract 0 7 = ⟨#[55, 120, 50, 59, 48, 59, 35]⟩ := by rw [← hT]; decide +kernel
  rw [hT] at HP
  have hti : (7 : Int) ≤ (T.size : Int) := by omega
  have HU := Lib.hid (fun W (hx : Ext w W) => unpack_any T W (by omega) (HV.ext hx))
  have HA := Lib.hid (fun W (hx : Ext w W) => at_any T 1 W (by omega) (HV.ext hx) 7 0 ha)
  have HUU := Lib.hid hu
  have hc1 : Hid (codeF 1 2 = 6) := by show _ = _; decide
  have hc2 : Hid (codeErr 1 2 = 0) := by show _ = _; decide
  have he : Hid (entryErr 6 = 0) := by show _ = _; decide
  have hs0 : Hid (sumF ⟨#[]⟩ = 1) := by show _ = _; decide +kernel
  have hck : Hid (tblErr [10000] = 4) := by show _ = _; decide
  have hteb : ((T.extract 0 7).toList == (⟨#[55, 120, 50, 59, 48, 59, 35]⟩ : ByteArray).toList) = true := by rw [hte]; simp
  clear hT hu hts HV
  go_enter Tryd.func4, Tryd.ntmps4
  go_wp2_with fail
  refine (code_any 1 2 _ _ _ hc1 hc2).mono ?_
  rintro e w1 ⟨rfl, X1⟩
  go_wp2_with fail
  refine (entry_any 6 _).mono ?_
  rintro e w2 ⟨a, b, rfl, X2, hab⟩
  rw [he.out]
  have hab2 : a = 1 ∧ b = 2 := by
    rcases hab with ⟨h, _⟩ | ⟨_, h1, h2⟩
    · exact absurd he.out h
    · omega
  obtain ⟨rfl, rfl⟩ := hab2
  clear hab
  have c0 := box_cell0 w2 33 (.int .i64 1) (.int .i64 2)
  have c1 := box_cell1 w2 33 (.int .i64 1) (.int .i64 2)
  have E2 : Ext w (w2.alloc (.cells #[.int .i64 1, .int .i64 2] 33)) := (X1.trans X2).alloc _
  clear X1 X2
  go_wp2_with fail
  refine (HP.out _ _ (E2.alloc _) (by exact lit_ints_at _ 3 ([7, 7, 0] : List Int) (by decide) _ (by simp))).mono ?_
  rintro e w3 ⟨rfl, X3⟩
  have S3 := ((Ext.refl _).alloc _).trans X3
  have c03 := S3.cell c0
  have c13 := S3.cell c1
  have E3 := E2.trans S3
  clear c0 c1 S3 X3 E2
  go_wp2_with fail
  refine (fine_any _ [0, 0, 0] _ (by exact lit_ints_at _ _ ([0, 0, 0] : List Int) (by decide) _ (by first | rfl | simp)) true rfl).mono ?_
  rintro e w4 ⟨rfl, X4⟩
  have S4 := ((Ext.refl _).alloc _).trans X4
  have c04 := S4.cell c03
  have c14 := S4.cell c13
  have E4 := E3.trans S4
  clear c03 c13 S4 X4 E3
  go_wp2_with fail
  refine (HU.out _ E4).mono ?_
  rintro e w5 ⟨v, rfl, X5, HI5⟩
  rw [HUU.out]
  rw [HUU.out] at HI5
  have c05 := X5.cell c04
  have c15 := X5.cell c14
  have E5 := E4.trans X5
  clear c04 c14 X5 E4
  go_wp2_with fail
  refine (HA.out _ E5).mono ?_
  rintro e w6 ⟨rfl, X6⟩
  have c06 := X6.cell c05
  have c16 := X6.cell c15
  have HI6 := HI5.ext X6
  have E6 := E5.trans X6
  clear c05 c15 X6 E5 HI5
  go_wp2_with fail
  refine (fine_any _ [0, 0] _ (by exact lit_ints_at _ _ ([0, 0] : List Int) (by decide) _ (by first | rfl | simp)) true rfl).mono ?_
  rintro e w7 ⟨rfl, X7⟩
  have S7 := ((Ext.refl _).alloc _).trans X7
  have c07 := S7.cell c06
  have c17 := S7.cell c16
  have HI7 := HI6.ext S7
  have E7 := E6.trans S7
  clear c06 c16 X7 S7 E6 HI6
  go_wp2_with fail
  refine (equal_ints v _ [7, 7, 0] [7, 7, 0] _ (HI7.ext ((Ext.refl _).alloc _)) (by exact lit_ints_at _ _ ([7, 7, 0] : List Int) (by decide) _ (by first | rfl | simp)) true (by show _ = _; decide)).mono ?_
  rintro e w8 ⟨rfl, X8⟩
  have E8 := E7.trans (((Ext.refl _).alloc _).trans X8)
  clear c07 c17 X8 E7 HI7
  go_wp2_with fail
  refine (sum_any ⟨#[]⟩ _ (by decide) 1 hs0).mono ?_
  rintro e w9 ⟨rfl, rfl⟩
  go_wp2_with fail
  refine (tcheck_any _ [10000] _ (by exact lit_ints_at _ _ ([10000] : List Int) (by decide) _ (by first | rfl | simp)) 4 hck).mono ?_
  rintro e w10 ⟨rfl, X10⟩
  go_wp2_with fail
  go_ret
  exact ⟨rfl, E8.trans (((Ext.refl _).alloc _).trans X10)⟩
end Go.Proofs.YtecfphohmgbddaaDoor
