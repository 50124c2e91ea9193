/- the walk of RanksHands -/
import Derived.Test.YtllhgkacbpgemaaRanksF
namespace Go.Proofs.Ytllhgkacbpgemaa
open Go.RowKit
set_option linter.unusedVariables false

set_option maxHeartbeats 3200000 in
set_option maxRecDepth 100000 in
theorem hands_walk (v : Value) (xs : List Int) (w : World) (hv : Ints w v xs) :
    Calls Try.prog 7 #[v] w fun e w' => e = .returned (.bool true) ∧ Ext w w' := by
  have HF := Lib.hid (ranksFact_any w)
  obtain ⟨z, hz⟩ : ∃ z, Hid (handErr xs = z) := ⟨_, rfl⟩
  obtain ⟨q1, hq1⟩ : ∃ q, Hid (classF xs = q) := ⟨_, rfl⟩
  obtain ⟨q2, hq2⟩ : ∃ q, Hid (valueF xs = q) := ⟨_, rfl⟩
  have HC := Lib.hid (fun (W : World) (hW : Ext w W) => rclass_any v xs W (hv.ext hW) z q1 hz hq1)
  have HV := Lib.hid (fun (W : World) (hW : Ext w W) => rvalue_any v xs W (hv.ext hW) z q2 hz hq2)
  have HE := Lib.hid (fun (W : World) (hW : Ext w W) => handError_any v xs W (hv.ext hW) z hz)
  have HK := Lib.hid (fun (W : World) (hW : Ext w W) => ranksCheck_any v xs W (hv.ext hW) z hz)
  have hzz : (z != z) = false := by simp
  by_cases h0 : z = 0
  · subst h0
    have hk := handOk hz.out
    have e1 := hq1.out
    have e2 := hq2.out
    rw [classF, if_pos hz.out] at e1
    rw [valueF, if_pos hz.out] at e2
    have HHC := Lib.hid (fun (W : World) (hW : Ext w W) => handClass_any v xs W (hv.ext hW) hk.rng (by rw [hk.len]; omega) q1 e1)
    have HHV := Lib.hid (fun (W : World) (hW : Ext w W) => handValue_any v xs W (hv.ext hW) hk.rng (by rw [hk.len]; omega) (hand_law hk).1 q2 e2)
    have hb1 : (q1 == q1) = true := by simp
    have hb2 : (q2 == q2) = true := by simp
    clear hv hz hq1 hq2 hk e1 e2 hzz
    go_enter Try.func7, Try.ntmps7
    go_wp2_with fail
    refine HF.out.mono ?_
    rintro e w1 ⟨rfl, X1⟩
    go_wp2_with fail
    refine (HC.out _ (by exact X1)).mono ?_
    rintro e w2 ⟨rfl, hx2⟩
    have X2 := X1.trans hx2
    go_wp2_with fail
    refine (HV.out _ (by exact X2)).mono ?_
    rintro e w3 ⟨rfl, hx3⟩
    have X3 := X2.trans hx3
    go_wp2_with fail
    refine (HE.out _ (by exact X3)).mono ?_
    rintro e w' ⟨rfl, rfl⟩
    go_wp2_with fail
    refine (HK.out _ (by exact X3)).mono ?_
    rintro e w' ⟨rfl, rfl⟩
    go_wp2_with fail
    refine (HHC.out _ (by exact X3)).mono ?_
    rintro e w' ⟨rfl, rfl⟩
    go_wp2_with fail
    refine (HHV.out _ (by exact X3)).mono ?_
    rintro e w4 ⟨rfl, hx4⟩
    go_wp2_with fail
    go_ret
    exact ⟨rfl, X3.trans hx4⟩
  · have e1 := hq1.out
    have e2 := hq2.out
    rw [classF, if_neg (by rw [hz.out]; exact h0)] at e1
    rw [valueF, if_neg (by rw [hz.out]; exact h0)] at e2
    subst e1; subst e2
    have hb1 : (z == z) = true := by simp
    have hb2 : (z != 0) = true := by simp [h0]
    clear hv hz hq1 hq2 h0
    go_enter Try.func7, Try.ntmps7
    go_wp2_with fail
    refine HF.out.mono ?_
    rintro e w1 ⟨rfl, X1⟩
    go_wp2_with fail
    refine (HC.out _ (by exact X1)).mono ?_
    rintro e w2 ⟨rfl, hx2⟩
    have X2 := X1.trans hx2
    go_wp2_with fail
    refine (HV.out _ (by exact X2)).mono ?_
    rintro e w3 ⟨rfl, hx3⟩
    have X3 := X2.trans hx3
    go_wp2_with fail
    refine (HE.out _ (by exact X3)).mono ?_
    rintro e w' ⟨rfl, rfl⟩
    go_wp2_with fail
    refine (HK.out _ (by exact X3)).mono ?_
    rintro e w' ⟨rfl, rfl⟩
    go_wp2_with fail
    go_ret
    exact ⟨rfl, X3⟩
end Go.Proofs.Ytllhgkacbpgemaa
