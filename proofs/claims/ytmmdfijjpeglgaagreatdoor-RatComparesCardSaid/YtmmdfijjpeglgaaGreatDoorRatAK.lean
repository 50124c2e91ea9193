/- the laws RatSums, RatProducts, RatCompares: joined -/
import Derived.Test.YtmmdfijjpeglgaaGreatDoorRatAJ
namespace Go.Proofs.YtmmdfijjpeglgaaGreatDoor
open Go.RowKit
set_option linter.unusedVariables false

theorem errs2_first {a b : ByteArray} (h : ratErr a ≠ 0) : errs2 a b = ratErr a := by
  unfold errs2
  simp only [firstF]
  rw [if_pos h]
theorem errs2_second {a b : ByteArray} (h : ratErr a = 0) : errs2 a b = ratErr b := by
  unfold errs2
  simp only [firstF]
  rw [if_neg (by simpa using h)]
  by_cases h2 : ratErr b = 0
  · rw [if_neg (by simpa using h2), h2]
  · rw [if_pos h2]
theorem rErrs_tab {a b : ByteArray} (ha : a.size ≤ 9223372036854775806) (hb : b.size ≤ 9223372036854775806) : Hid (∀ v W, Strs W v [a, b] → Calls Tryz.prog 19 #[v] W fun e w' => e = .returned (.int .i64 (errs2 a b)) ∧ Ext W w') :=
  fun v W hv => rRatErrors_any v [a, b] W hv (by simp; omega) (errs2 a b) rfl
theorem rErr_tab {a : ByteArray} (ha : a.size ≤ 9223372036854775806) : Hid (∀ W, Calls Tryz.prog 17 #[.string a] W fun e w' => e = .returned (.int .i64 (ratErr a)) ∧ Ext W w') :=
  fun W => rRatError_any a W ha
theorem long_tab {a b : ByteArray} (ha : a.size ≤ 9223372036854775806) (hb : b.size ≤ 9223372036854775806) (q : Bool) (hq : (100 < a.size ∨ 100 < b.size) ↔ q = true) : Hid (∀ v W, Strs W v [a, b] → Calls Tryz.prog 26 #[.int .i64 100, v] W fun e w' => e = .returned (.bool q) ∧ Ext W w') :=
  fun v W hv => long_any 100 v [a, b] W hv (by simp; omega) q (by
    show _ = _
    rw [Bool.eq_iff_iff, ← hq]
    simp
    omega)
theorem neg_tab {a : ByteArray} {w : World} (ha : a.size ≤ 9223372036854775806) (htab : TabPow w) (h : ratErr a = 0) : Hid (∀ W, Ext w W → Calls Tryz.prog 25 #[.string a] W fun e w' => e = .returned (.tuple #[.string (ratT (-ratOf a)), .int .i64 0]) ∧ Ext W w') := fun W hx => by
  have := ratNeg_ok a W (tabPow_ext htab hx) ha h
  rwa [outF_neg (ratErr_ok h)] at this

theorem ratSums_walk (a b : ByteArray) (w : World) (ha : a.size ≤ 9223372036854775806) (hb : b.size ≤ 9223372036854775806) (htab : TabPow w) :
    Calls Tryz.prog 5 #[.string a, .string b] w fun e w' => e = .returned (.bool true) ∧ Ext w w' := by
  have HF := ratFact_tab htab
  have HRS := rErrs_tab ha hb
  have HR := rErr_tab ha
  by_cases h : errs2 a b = 0
  · obtain ⟨h1, h2⟩ := errs2_zero h
    rw [h] at HRS
    rw [h1] at HR
    have HN := neg_tab ha htab h1
    by_cases hl : 100 < a.size ∨ 100 < b.size
    · exact ratSums_long a b _ _ _ _ _ w HF (fun W hx => ratAdd_ok a b W (tabPow_ext htab hx) ha hb h) (fun W hx => ratSub_ok a b W (tabPow_ext htab hx) ha hb h) HN HRS HR (long_tab ha hb true (by simp [hl]))
    · have ra := ratErr_ok h1
      have rb := ratErr_ok h2
      have ba := ratOf_RB ra (k := 100) (by omega) (by omega)
      have bb := ratOf_RB rb (k := 100) (by omega) (by omega)
      have ea : ratT (ratOf a) = a := (text_ratT ra).symm
      have eb : ratT (ratOf b) = b := (text_ratT rb).symm
      refine ratSums_ok a b (ratT (ratOf a + ratOf b)) (ratT (ratOf a - ratOf b)) (ratT (-ratOf a)) w HF (fun W hx => ?_) (fun W hx => ?_) HN HRS HR (long_tab ha hb false (by simp [hl])) (fun W => ?_) (fun W => ?_) (fun W => ?_)
      · have := ratAdd_ok a b W (tabPow_ext htab hx) ha hb h
        rwa [outF_RB (RB_add ba bb) (by omega)] at this
      · have := ratSub_ok a b W (tabPow_ext htab hx) ha hb h
        rwa [outF_RB (RB_sub ba bb) (by omega)] at this
      · have := rAdd_any (by omega) ba bb W
        rwa [ea, eb] at this
      · have := rSub_any (by omega) ba bb W
        rwa [ea, eb] at this
      · have := rNeg_any (by omega) ba W
        rwa [ea] at this
  · have hp : (errs2 a b != 0) = true := by simp [h]
    by_cases h1 : ratErr a = 0
    · rw [h1] at HR
      exact ratSums_err2 a b _ _ w hp (by simp) HF (fun W hx => ratAdd_err a b W ha hb h) (fun W hx => ratSub_err a b W ha hb h) (neg_tab ha htab h1) HRS HR
    · rw [← errs2_first (b := b) h1] at HR
      refine ratSums_err1 a b _ w hp (by simp) HF (fun W hx => ratAdd_err a b W ha hb h) (fun W hx => ratSub_err a b W ha hb h) (fun W hx => ?_) HRS HR
      have := ratNeg_err a W ha h1
      rwa [← errs2_first (b := b) h1] at this

theorem ratProducts_walk (a b : ByteArray) (w : World) (ha : a.size ≤ 9223372036854775806) (hb : b.size ≤ 9223372036854775806) (htab : TabPow w) :
    Calls Tryz.prog 6 #[.string a, .string b] w fun e w' => e = .returned (.bool true) ∧ Ext w w' := by
  have HF := ratFact_tab htab
  have HRS := rErrs_tab ha hb
  by_cases h : errs2 a b = 0
  · obtain ⟨h1, h2⟩ := errs2_zero h
    rw [h] at HRS
    have ra := ratErr_ok h1
    have rb := ratErr_ok h2
    have hz := isT_ratT_zero rb
    by_cases hl : 100 < a.size ∨ 100 < b.size
    · have HL := long_tab ha hb true (by simp [hl])
      by_cases h0 : ratOf b = 0
      · rw [decide_eq_true h0] at hz
        exact ratProducts_long a b _ _ _ _ w HF (fun W hx => ratMul_ok a b W (tabPow_ext htab hx) ha hb h) (fun W hx => ratDiv_zero a b W ha hb h hz) HRS HL
      · rw [decide_eq_false h0] at hz
        exact ratProducts_long a b _ _ _ _ w HF (fun W hx => ratMul_ok a b W (tabPow_ext htab hx) ha hb h) (fun W hx => ratDiv_ok a b W (tabPow_ext htab hx) ha hb h hz h0) HRS HL
    · have HL := long_tab ha hb false (by simp [hl])
      have ba := ratOf_RB ra (k := 100) (by omega) (by omega)
      have bb := ratOf_RB rb (k := 100) (by omega) (by omega)
      have ea : ratT (ratOf a) = a := (text_ratT ra).symm
      have eb : ratT (ratOf b) = b := (text_ratT rb).symm
      have HM : Hid (∀ W, Ext w W → Calls Tryz.prog 30 #[.string a, .string b] W fun e w' => e = .returned (.tuple #[.string (ratT (ratOf a * ratOf b)), .int .i64 0]) ∧ Ext W w') := fun W hx => by
        have := ratMul_ok a b W (tabPow_ext htab hx) ha hb h
        rwa [outF_RB (RB_mul ba bb) (by omega)] at this
      have HRM : Hid (∀ W, Calls Tryz.prog 32 #[.string a, .string b] W fun e w' => e = .returned (.string (ratT (ratOf a * ratOf b))) ∧ Ext W w') := fun W => by
        have := rMul_any (by omega) ba bb W
        rwa [ea, eb] at this
      by_cases h0 : ratOf b = 0
      · rw [decide_eq_true h0] at hz
        exact ratProducts_zero a b _ w hz HF HM (fun W hx => ratDiv_zero a b W ha hb h hz) HRS HL HRM
      · rw [decide_eq_false h0] at hz
        refine ratProducts_ok a b _ (ratT (ratOf a / ratOf b)) w hz HF HM (fun W hx => ?_) HRS HL HRM (fun W => ?_)
        · have := ratDiv_ok a b W (tabPow_ext htab hx) ha hb h hz h0
          rwa [outF_RB (RB_div (num_ne_zero h0) ba bb) (by omega)] at this
        · have := rDiv_any (by omega) ba bb (num_ne_zero h0) W
          rwa [ea, eb] at this
  · have hp : (errs2 a b != 0) = true := by simp [h]
    exact ratProducts_err a b _ w hp (by simp) HF (fun W hx => ratMul_err a b W ha hb h) (fun W hx => ratDiv_err a b W ha hb h) HRS

theorem ratCompares_walk (a b : ByteArray) (w : World) (ha : a.size ≤ 9223372036854775806) (hb : b.size ≤ 9223372036854775806) (htab : TabPow w) :
    Calls Tryz.prog 7 #[.string a, .string b] w fun e w' => e = .returned (.bool true) ∧ Ext w w' := by
  have HF := ratFact_tab htab
  have HRA := rErr_tab ha
  have HRB := rErr_tab hb
  by_cases h1 : ratErr a = 0
  · rw [h1] at HRA
    have ra := ratErr_ok h1
    by_cases h2 : ratErr b = 0
    · rw [h2] at HRB
      have rb := ratErr_ok h2
      have h : errs2 a b = 0 := by rw [errs2_second h1, h2]
      by_cases hl : 100 < a.size ∨ 100 < b.size
      · exact ratCompares_long a b _ _ _ _ w HF (fun W hx => ratCompare_ok a b W ha hb h) (fun W hx => ratSign_ok a W ha h1) (fun W hx => ratFloor_ok a W (tabPow_ext htab hx) ha h1) HRA HRB (long_tab ha hb true (by simp [hl]))
      · have ba := ratOf_RB ra (k := 100) (by omega) (by omega)
        have bb := ratOf_RB rb (k := 100) (by omega) (by omega)
        have ea : ratT (ratOf a) = a := (text_ratT ra).symm
        have eb : ratT (ratOf b) = b := (text_ratT rb).symm
        refine ratCompares_ok a b (cmpQ (ratOf a) (ratOf b)) ((ratOf a).num.sign) (ratT (((ratOf a).num / ((ratOf a).den : Int) : Int) : Rat)) w (by simp) (by simp) HF (fun W hx => ratCompare_ok a b W ha hb h) (fun W hx => ratSign_ok a W ha h1) (fun W hx => ?_) HRA HRB (long_tab ha hb false (by simp [hl])) (fun v W hv => fine_any v [0, 0, 0] W hv true (by show _ = _; rfl)) (fun W => ?_) (fun W => ?_) (fun W => ?_)
        · have := ratFloor_ok a W (tabPow_ext htab hx) ha h1
          rwa [outF_RB (RB_floor ba) (by omega)] at this
        · have := rCmp_any (by omega) ba bb W
          rwa [ea, eb, cmpQ_sub] at this
        · have := rSign_any (by omega) ba W
          rwa [ea] at this
        · have := rFloor_any (by omega) ba W
          rwa [ea] at this
    · have he := errs2_second (b := b) h1
      have h : errs2 a b ≠ 0 := by rw [he]; exact h2
      rw [← he] at HRB
      exact ratCompares_err2 a b _ _ _ _ w (by simp [h]) (by simp) HF (fun W hx => ratCompare_err a b W ha hb h) (fun W hx => ratSign_ok a W ha h1) (fun W hx => ratFloor_ok a W (tabPow_ext htab hx) ha h1) HRA HRB
  · have he := errs2_first (b := b) h1
    have h : errs2 a b ≠ 0 := by rw [he]; exact h1
    refine ratCompares_err1 a b (errs2 a b) w (by simp [h]) (by simp) HF (fun W hx => ratCompare_err a b W ha hb h) (fun W hx => ?_) (fun W hx => ?_) ?_
    · rw [he]; exact ratSign_err a W ha h1
    · rw [he]; exact ratFloor_err a W ha h1
    · rw [he]; exact HRA
end Go.Proofs.YtmmdfijjpeglgaaGreatDoor
