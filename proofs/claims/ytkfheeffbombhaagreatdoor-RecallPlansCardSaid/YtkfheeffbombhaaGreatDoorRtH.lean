/- texts merged: RatT RatU RatV RatW -/
import Derived.Test.YtkfheeffbombhaaGreatDoorRtG
/- walk of package rat: Odds -/
namespace Go.Proofs.YtkfheeffbombhaaGreatDoor
open Go.RowKit
set_option linter.unusedVariables false

theorem sumG_QB : ∀ (qs : List Rat) (acc : Rat), QB acc → (sumG acc qs).2 = 0 → QB (sumG acc qs).1
  | [], acc, h, _ => h
  | q :: t, acc, h, h2 => by
    rw [sumG] at h2 ⊢
    by_cases hf : fitsB (acc + q) = true
    · rw [if_pos hf] at h2 ⊢
      exact sumG_QB t _ (fits_QB hf) h2
    · rw [if_neg hf] at h2
      cases h2
theorem posL_QB {l : List ByteArray} (h : (posL l).2 = 0) : QB (posL l).1 := by
  have h1 : (sumL l).2 = 0 := by
    unfold posL at h
    dsimp only at h
    by_cases hc : (sumL l).2 = 0 ∧ anyNeg l = true
    · exact hc.1
    · rw [if_neg hc] at h; exact h
  show QB (sumL l).1
  unfold sumL at h1 ⊢
  by_cases ha : 256 < l.length
  · rw [if_pos ha] at h1; cases h1
  · rw [if_neg ha] at h1 ⊢
    by_cases he : errsL l = 0
    · rw [if_neg (by simpa using he)] at h1 ⊢
      exact sumG_QB _ _ zero_QB h1
    · rw [if_pos he] at h1; exact absurd h1 he
theorem one_QB : QB ((1 : Int) : Rat) := by
  refine ⟨?_, ?_⟩
  · rw [Rat.num_intCast]
    show (dig 1).length ≤ _
    rw [← one_len]; omega
  · rw [Rat.den_intCast, ← one_len]; omega
def oddsE (l : List ByteArray) : Int := if (posL l).2 ≠ 0 then (posL l).2 else if cmpQ (posL l).1 ((1 : Int) : Rat) ≠ 0 then 3 else 0

set_option maxHeartbeats 3200000 in
set_option maxRecDepth 100000 in
theorem odds_any (v : Value) (l : List ByteArray) (w : World) (htab : TabPow w) (hv : Strs w v l) (hs : ∀ s ∈ l, s.size ≤ 9223372036854775806) :
    Calls Tryz.prog 73 #[v] w fun e w' => e = .returned (.int .i64 (oddsE l)) ∧ Ext w w' := by
  have HS := Lib.hid (positive_any v l w htab hv hs)
  have hqb := posL_QB (l := l)
  have hod : oddsE l = if (posL l).2 ≠ 0 then (posL l).2 else if cmpQ (posL l).1 ((1 : Int) : Rat) ≠ 0 then 3 else 0 := rfl
  rw [hod]
  obtain ⟨ao, c, rfl, hlen, hc⟩ := hv.open
  generalize posL l = S at *
  obtain ⟨q, p⟩ := S
  dsimp only at HS hqb ⊢
  clear hc hv htab hs hod
  by_cases hp : p = 0
  · subst hp
    rw [if_neg (by simp)]
    have HQB := Lib.hid (hqb rfl)
    have HOF := Lib.hid (fun W => qOf_any 1 W (by omega) (by omega))
    have HCM := Lib.hid (fun (x y : Value) W hx hy => qCmp_any x y q ((1 : Int) : Rat) W hx hy HQB.out one_QB)
    rw [show (q.num * ((((1 : Int) : Rat)).den : Int) - ((((1 : Int) : Rat)).num) * (q.den : Int)).sign = cmpQ q ((1 : Int) : Rat) from rfl] at HCM
    generalize cmpQ q ((1 : Int) : Rat) = z at *
    obtain ⟨rz, hrz⟩ : ∃ rz : Int, (if z ≠ 0 then 3 else 0) = rz := ⟨_, rfl⟩
    rw [hrz]
    have HRZ := Lib.hid hrz
    clear hqb hrz
    go_enter Tryz.func73, Tryz.ntmps73
    go_wp2_with fail
    refine HS.out.mono ?_
    rintro e w2 ⟨u2, rfl, h2, X2⟩
    obtain ⟨s2, ao2, l2, c2, bo2, m2, d2, rfl, _, _, _⟩ := h2.opn
    have hown := World.ownsRow_lit (base := w2.heap.size) (e := 99) (size := 3) w2 #[.bool s2, .slice ao2 l2 c2, .slice bo2 m2 d2] 1 (Nat.le_refl _) (by unfold maxLen; omega) (by simp)
    have XL := (Ext.refl w2).alloc (.cells #[.bool s2, .slice ao2 l2 c2, .slice bo2 m2 d2] 99)
    have HQ := Lib.hid (h2.ext XL)
    clear h2
    go_wp2_with fail
    obtain ⟨W3, hW3⟩ : ∃ W3, w2.alloc (.cells #[.bool s2, .slice ao2 l2 c2, .slice bo2 m2 d2] 99) = W3 := ⟨_, rfl⟩
    rw [hW3] at hown XL HQ ⊢
    have k1 := cell3 hown (j := 0) rfl
    have k2 := cell3 hown (j := 1) rfl
    have k3 := cell3 hown (j := 2) rfl
    clear hW3 hown
    have XA := X2.trans XL
    go_region_held3 (fun w' => w'.cell? ⟨w2.heap.size, 0, none⟩ = some (.bool s2) ∧ w'.cell? ⟨w2.heap.size, 1, none⟩ = some (.slice ao2 l2 c2) ∧ w'.cell? ⟨w2.heap.size, 2, none⟩ = some (.slice bo2 m2 d2))
      (first | exact ⟨k1, k2, k3⟩ | exact ⟨X5.cell k1, X5.cell k2, X5.cell k3⟩ | exact ⟨X6.cell k1, X6.cell k2, X6.cell k3⟩ | go_keep)
      (first
      | (go_at_call 70; refine (HOF.out _).mono ?_; rintro e w5 ⟨r5, rfl, hr5, Y5⟩; have X5 : Ext W3 w5 := (Ext.refl W3).drew.trans Y5; obtain ⟨s15, ao15, l15, c15, bo15, m15, d15, rfl, _, _, _⟩ := hr5.opn; have HR5 := Lib.hid hr5; clear hr5)
      | (go_at_call 108; refine (HCM.out _ _ _ (HQ.out.ext X5) HR5.out).mono ?_; rintro e w6 ⟨rfl, Y6⟩; have X6 : Ext W3 w6 := X5.trans Y6))
    all_goals
      by_cases hz : z = 0
      · subst hz
        go_wp2_with fail
        go_ret
        exact ⟨by rw [← HRZ.out, if_neg (by simp)]; rfl, XA.trans X6⟩
      · have hzb : (z != 0) = true := by simp [hz]
        have HZ := Lib.hid hz
        clear hz
        go_wp2_with fail
        go_ret
        exact ⟨by rw [← HRZ.out, if_pos HZ.out]; rfl, XA.trans X6⟩
  · rw [if_pos hp]
    have hpb : (p != 0) = true := by simp [hp]
    clear hp hqb
    go_enter Tryz.func73, Tryz.ntmps73
    go_wp2_with fail
    refine HS.out.mono ?_
    rintro e w2 ⟨u2, rfl, h2, X2⟩
    obtain ⟨s2, ao2, l2, c2, bo2, m2, d2, rfl, _, _, _⟩ := h2.opn
    clear h2
    go_wp2_with fail
    go_ret
    exact ⟨rfl, X2.alloc _⟩
end Go.Proofs.YtkfheeffbombhaaGreatDoor
/- walk of package rat: Best -/
namespace Go.Proofs.YtkfheeffbombhaaGreatDoor
open Go.RowKit
set_option linter.unusedVariables false

end Go.Proofs.YtkfheeffbombhaaGreatDoor
/- walks of package rat: OutAll, Shares -/
namespace Go.Proofs.YtkfheeffbombhaaGreatDoor
open Go.RowKit
set_option linter.unusedVariables false

theorem info_rat : (Tryz.prog.info? 36).map (fun i => (i.zero, i.size, i.bytes)) = some (some (.string ⟨#[]⟩), 1, 16) := by kernel_rfl
theorem ei_rats : EI Tryz.prog 32 36 (.string ⟨#[]⟩) 1 16 := ⟨Tryz.underlying32, info_parts info_rat, rfl, by decide⟩
/-- the texts of numbers, if none is too long -/
def outsG : List Rat → Option (List ByteArray)
  | [] => some []
  | q :: t => if fitsB q = true then (outsG t).map (ratT q :: ·) else none

set_option maxHeartbeats 3200000 in
set_option maxRecDepth 100000 in
theorem outAll_any (v : Value) (qs : List Rat) (w : World) (htab : TabPow w) (hv : QsV w v qs) (hl : qs.length ≤ 1000000) :
    Calls Tryz.prog 55 #[v] w fun e w' => Ext w w' ∧ ((outsG qs = none ∧ e = .returned (.tuple #[.slice none 0 0, .int .i64 2])) ∨ ∃ os u, outsG qs = some os ∧ e = .returned (.tuple #[u, .int .i64 0]) ∧ Strs w' u os) := by
  obtain ⟨wo, rfl⟩ : ∃ wo : World, wo = w := ⟨_, rfl⟩
  obtain ⟨ao4, c4, ts, rfl, hql, htl, hcells, hqv⟩ := hv
  have HC4 := Lib.hid hcells
  have HV4 := Lib.hid hqv
  have HTL := Lib.hid htl
  have HT := Lib.hid htab
  clear hcells hqv htl htab
  go_enter Tryz.func55, Tryz.ntmps55
  go_wp2_with fail
  go_loopw [4, 11] (fun ov iv wr => ∃ (i : Nat) (os : List ByteArray), i ≤ qs.length ∧ iv = .int .i64 i ∧ wr.ownsRow wo.heap.size 36 1 ov i (os.map Value.string) ∧ Ext wo wr ∧ Hid (outsG qs = (outsG (qs.drop i)).map (os ++ ·))) (fun _ iv _ => qs.length - (intOf iv).toNat)
  case atStart => exact ⟨0, [], Nat.zero_le _, rfl, World.ownsRow_nil _ _ _ _, Ext.refl _, by show _ = _; rw [List.drop_zero]; cases outsG qs <;> rfl⟩
  case round =>
    obtain ⟨i, os, hi, rfl, HO, X, HI⟩ := hrel
    by_cases hlt : i < qs.length
    · obtain ⟨tt, t1, _, _⟩ := get_lt (xs := ts) (k := i) (by rw [HTL.out]; exact hlt)
      obtain ⟨qq, q1, q2, _⟩ := get_lt hlt
      obtain ⟨g, rfl, e0, e1, e2⟩ := HC4.out i tt t1.out
      have hqq := (HV4.out i tt qq t1.out q1.out).ext X
      have e0 := X.cell e0
      have e1 := X.cell e1
      have e2 := X.cell e2
      obtain ⟨a1, a2, a3⟩ := tt
      obtain ⟨s5, ao5, l5, c5, bo5, m5, c6, hv5, _, _, _⟩ := hqq.opn
      simp only [TV.v, Value.agg.injEq, Array.mk.injEq, List.cons.injEq, and_true] at hv5
      obtain ⟨rfl, rfl, rfl⟩ := hv5
      dsimp only at e0 e1 e2
      have HQ5 := Lib.hid (show QV wr (.agg #[.bool s5, .slice ao5 l5 c5, .slice bo5 m5 c6]) qq from hqq)
      have hki : (i : Int) < (qs.length : Int) := by omega
      have hi2 := HI.out
      rw [q2.out, outsG] at hi2
      have XL := (Ext.refl wr).alloc (.cells #[.bool s5, .slice ao5 l5 c5, .slice bo5 m5 c6] 99)
      have HOUT := Lib.hid (out_any _ qq _ (HQ5.out.ext XL) (tabPow_ext HT.out (X.trans XL)))
      have XA := X.trans XL
      cases hf : fitsB qq
      · rw [hf, if_neg (by simp), Option.map_none] at hi2
        rw [show outF qq = (⟨#[]⟩, 2) from if_neg (by rw [hf]; simp)] at HOUT
        have HI2 := Lib.hid hi2
        clear hqq hf hi2 hlt
        go_wp2_with fail
        refine HOUT.out.mono ?_
        rintro e w3 ⟨rfl, X3⟩
        go_wp2_with fail
        go_ret2
        exact ⟨XA.trans X3, .inl ⟨HI2.out, rfl⟩⟩
      · rw [hf, if_pos rfl] at hi2
        rw [show outF qq = (ratT qq, 0) from if_pos hf] at HOUT
        have hi3 : outsG qs = (outsG (qs.drop (i + 1))).map ((os ++ [ratT qq]) ++ ·) := by
          rw [hi2]
          cases outsG (qs.drop (i + 1)) <;> simp
        generalize ratT qq = T at *
        have HI2 := Lib.hid hi3
        clear hqq hf hi2 hi3 hlt
        go_wp2_with fail
        refine HOUT.out.mono ?_
        rintro e w3 ⟨rfl, X3⟩
        have HO3 := own_ext HO (XL.trans X3)
        have XB := XA.trans X3
        have hsz := XB.size
        go_wp2_with (at_builtin; refine wp_app1 (s := .tmp 23) (x := .tmp 25) (y := .string T) rfl rfl ei_rats HO3 rfl rfl rfl rfl (by omega) (by omega) (by omega) ?_; intro v' w' hown hgrew)
        go_roundw
        case rel => exact ⟨i + 1, os ++ [T], by omega, by go_num, own_cast hown (by simp) rfl, hgrew.extNew XB HO3 (Nat.le_refl _), HI2⟩
        case measure => simp [intOf]; omega
    · have hil : qs.length = i := by omega
      have hi2 := HI.out
      rw [← hil, List.drop_length, outsG] at hi2
      have HI2 := Lib.hid hi2
      have HR := Lib.hid (own_rowOf (enc := Value.string) HO (by omega))
      clear hlt HO hi2
      go_wp2_with fail
      go_ret2
      exact ⟨X, .inr ⟨os, _, by rw [HI2.out]; simp, rfl, HR.out⟩⟩
end Go.Proofs.YtkfheeffbombhaaGreatDoor
/- walk of package rat: Shares -/
namespace Go.Proofs.YtkfheeffbombhaaGreatDoor
open Go.RowKit
set_option linter.unusedVariables false

end Go.Proofs.YtkfheeffbombhaaGreatDoor
