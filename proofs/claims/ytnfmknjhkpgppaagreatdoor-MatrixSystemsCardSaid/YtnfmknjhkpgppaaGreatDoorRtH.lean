/- texts merged: RatT RatU RatV RatW -/
import Derived.Test.YtnfmknjhkpgppaaGreatDoorRtG
/- walk of package rat: Odds -/
namespace Go.Proofs.YtnfmknjhkpgppaaGreatDoor
open Go.RowKit
set_option linter.unusedVariables false

end Go.Proofs.YtnfmknjhkpgppaaGreatDoor
/- walk of package rat: Best -/
namespace Go.Proofs.YtnfmknjhkpgppaaGreatDoor
open Go.RowKit
set_option linter.unusedVariables false

end Go.Proofs.YtnfmknjhkpgppaaGreatDoor
/- walks of package rat: OutAll, Shares -/
namespace Go.Proofs.YtnfmknjhkpgppaaGreatDoor
open Go.RowKit
set_option linter.unusedVariables false

theorem info_rat : (Tryz.prog.info? 31).map (fun i => (i.zero, i.size, i.bytes)) = some (some (.string ⟨#[]⟩), 1, 16) := by kernel_rfl
theorem ei_rats : EI Tryz.prog 24 31 (.string ⟨#[]⟩) 1 16 := ⟨Tryz.underlying24, info_parts info_rat, rfl, by decide⟩
/-- the texts of numbers, if none is too long -/
def outsG : List Rat → Option (List ByteArray)
  | [] => some []
  | q :: t => if fitsB q = true then (outsG t).map (ratT q :: ·) else none

set_option maxHeartbeats 3200000 in
set_option maxRecDepth 100000 in
theorem outAll_any (v : Value) (qs : List Rat) (w : World) (htab : TabPow w) (hv : QsV w v qs) (hl : qs.length ≤ 1000000) :
    Calls Tryz.prog 29 #[v] w fun e w' => Ext w w' ∧ ((outsG qs = none ∧ e = .returned (.tuple #[.slice none 0 0, .int .i64 2])) ∨ ∃ os u, outsG qs = some os ∧ e = .returned (.tuple #[u, .int .i64 0]) ∧ Strs w' u os) := by
  obtain ⟨wo, rfl⟩ : ∃ wo : World, wo = w := ⟨_, rfl⟩
  obtain ⟨ao4, c4, ts, rfl, hql, htl, hcells, hqv⟩ := hv
  have HC4 := Lib.hid hcells
  have HV4 := Lib.hid hqv
  have HTL := Lib.hid htl
  have HT := Lib.hid htab
  clear hcells hqv htl htab
  go_enter Tryz.func29, Tryz.ntmps29
  go_wp2_with fail
  go_loopw [4, 11] (fun ov iv wr => ∃ (i : Nat) (os : List ByteArray), i ≤ qs.length ∧ iv = .int .i64 i ∧ wr.ownsRow wo.heap.size 31 1 ov i (os.map Value.string) ∧ Ext wo wr ∧ Hid (outsG qs = (outsG (qs.drop i)).map (os ++ ·))) (fun _ iv _ => qs.length - (intOf iv).toNat)
  case atStart => exact ⟨0, [], Nat.zero_le _, rfl, World.ownsRow_nil _ _ _ _, Ext.refl _, by show _ = _; rw [List.drop_zero]; cases outsG qs <;> rfl⟩
  case round =>
    obtain ⟨i, os, hi, rfl, HO, X, HI⟩ := hrel
    by_cases hlt : i < qs.length
    · obtain ⟨tt, t1, _, _⟩ := get_lt (xs := ts) (k := i) (by rw [HTL.out]; exact hlt)
      obtain ⟨qq, q1, q2, _⟩ := get_lt hlt
      obtain ⟨g, rfl, e0, e1, e2⟩ := HC4.out i tt t1.out
      have hqq := (HV4.out i tt qq t1.out q1.out).ext X
      have e0 := X.cell e0
      have e1 := X.cell e1
      have e2 := X.cell e2
      obtain ⟨a1, a2, a3⟩ := tt
      obtain ⟨s5, ao5, l5, c5, bo5, m5, c6, hv5, _, _, _⟩ := hqq.opn
      simp only [TV.v, Value.agg.injEq, Array.mk.injEq, List.cons.injEq, and_true] at hv5
      obtain ⟨rfl, rfl, rfl⟩ := hv5
      dsimp only at e0 e1 e2
      have HQ5 := Lib.hid (show QV wr (.agg #[.bool s5, .slice ao5 l5 c5, .slice bo5 m5 c6]) qq from hqq)
      have hki : (i : Int) < (qs.length : Int) := by omega
      have hi2 := HI.out
      rw [q2.out, outsG] at hi2
      have XL := (Ext.refl wr).alloc (.cells #[.bool s5, .slice ao5 l5 c5, .slice bo5 m5 c6] 60)
      have HOUT := Lib.hid (out_any _ qq _ (HQ5.out.ext XL) (tabPow_ext HT.out (X.trans XL)))
      have XA := X.trans XL
      cases hf : fitsB qq
      · rw [hf, if_neg (by simp), Option.map_none] at hi2
        rw [show outF qq = (⟨#[]⟩, 2) from if_neg (by rw [hf]; simp)] at HOUT
        have HI2 := Lib.hid hi2
        clear hqq hf hi2 hlt
        go_wp2_with fail
        refine HOUT.out.mono ?_
        rintro e w3 ⟨rfl, X3⟩
        go_wp2_with fail
        go_ret2
        exact ⟨XA.trans X3, .inl ⟨HI2.out, rfl⟩⟩
      · rw [hf, if_pos rfl] at hi2
        rw [show outF qq = (ratT qq, 0) from if_pos hf] at HOUT
        have hi3 : outsG qs = (outsG (qs.drop (i + 1))).map ((os ++ [ratT qq]) ++ ·) := by
          rw [hi2]
          cases outsG (qs.drop (i + 1)) <;> simp
        generalize ratT qq = T at *
        have HI2 := Lib.hid hi3
        clear hqq hf hi2 hi3 hlt
        go_wp2_with fail
        refine HOUT.out.mono ?_
        rintro e w3 ⟨rfl, X3⟩
        have HO3 := own_ext HO (XL.trans X3)
        have XB := XA.trans X3
        have hsz := XB.size
        go_wp2_with (at_builtin; refine wp_app1 (s := .tmp 23) (x := .tmp 25) (y := .string T) rfl rfl ei_rats HO3 rfl rfl rfl rfl (by omega) (by omega) (by omega) ?_; intro v' w' hown hgrew)
        go_roundw
        case rel => exact ⟨i + 1, os ++ [T], by omega, by go_num, own_cast hown (by simp) rfl, hgrew.extNew XB HO3 (Nat.le_refl _), HI2⟩
        case measure => simp [intOf]; omega
    · have hil : qs.length = i := by omega
      have hi2 := HI.out
      rw [← hil, List.drop_length, outsG] at hi2
      have HI2 := Lib.hid hi2
      have HR := Lib.hid (own_rowOf (enc := Value.string) HO (by omega))
      clear hlt HO hi2
      go_wp2_with fail
      go_ret2
      exact ⟨X, .inr ⟨os, _, by rw [HI2.out]; simp, rfl, HR.out⟩⟩
end Go.Proofs.YtnfmknjhkpgppaaGreatDoor
/- walk of package rat: Shares -/
namespace Go.Proofs.YtnfmknjhkpgppaaGreatDoor
open Go.RowKit
set_option linter.unusedVariables false

end Go.Proofs.YtnfmknjhkpgppaaGreatDoor
