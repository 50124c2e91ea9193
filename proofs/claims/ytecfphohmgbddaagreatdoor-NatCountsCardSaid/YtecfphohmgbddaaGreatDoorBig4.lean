/- walks of package big: Sub, divSmall -/
import Derived.Test.YtecfphohmgbddaaGreatDoorBig3
namespace Go.Proofs.YtecfphohmgbddaaGreatDoor
open Go.RowKit
set_option linter.unusedVariables false

theorem len_le_of_val {ds ms : List Nat} {n m : Nat} (h : m ≤ n) : (dig m).length ≤ (dig n).length := dig_len_le h

set_option maxHeartbeats 3200000 in
set_option maxRecDepth 100000 in
theorem sub_le (v u : Value) (ds ms : List Nat) (w : World) (hv : Digs w v ds) (hu : Digs w u ms) (hd : Dg ds) (hm : Dg ms) (hml : ms.length ≤ ds.length) (hl : ds.length ≤ 1073741824) (hle : val ms ≤ val ds) :
    Calls Tryz.prog 68 #[v, u] w fun e w' => ∃ r, e = .returned r ∧ NatV w' r (val ds - val ms) ∧ Ext w w' := by
  obtain ⟨wo, rfl⟩ : ∃ wo : World, wo = w := ⟨_, rfl⟩
  obtain ⟨F, hF⟩ : ∃ F, subL ds ms 0 = F := ⟨_, rfl⟩
  obtain ⟨ao, c, rfl, hlen, hc⟩ := hv.open
  obtain ⟨ao2, c2, rfl, hlen2, hc2⟩ := hu.open
  have HF := Lib.hid hF
  have HC := Lib.hid hc
  have HC2 := Lib.hid hc2
  have HD := Lib.hid hd
  have HM := Lib.hid hm
  have HLE := Lib.hid hle
  have hmi : (ms.length : Int) ≤ (ds.length : Int) := by omega
  clear hF hc hd hv hc2 hm hu hle
  go_enter Tryz.func68, Tryz.ntmps68
  go_wp2_with (first
    | (at_make; refine wp_make0 rfl rfl ei_nat rfl rfl ds.length rfl (by omega) (by omega) ?_; intro w2 hO2 hX2))
  go_loopw [5, 6, 15] (fun o cv iv wr => ∃ (i b : Nat) (os : List Nat), i ≤ ds.length ∧ iv = .int .i64 i ∧ cv = .int .i64 b ∧ b ≤ 1 ∧ os.length = i ∧ wr.ownsRow wo.heap.size 121 1 o i (os.map encD) ∧ Ext wo wr ∧ Hid (os ++ subL (ds.drop i) (ms.drop i) b = F)) (fun _ _ iv _ => ds.length - (intOf iv).toNat)
  case atStart => exact ⟨0, 0, [], Nat.zero_le _, rfl, rfl, by omega, rfl, hO2, hX2, HF.out⟩
  case round =>
    obtain ⟨i, bo, os, hi, rfl, rfl, hcr, hol, HO, X, HI⟩ := hrel
    have hci : (bo : Int) ≤ 1 := by omega
    have HOL := Lib.hid hol
    clear hol
    have hsz := X.size
    by_cases hlt : i < ds.length
    · obtain ⟨d, d1, d2, d3⟩ := get_lt hlt
      obtain ⟨b, off, rfl, hc0⟩ := (HC.out.ext X).at d1
      have hcell : wr.cell? ⟨b, off + i, none⟩ = some (.int .u32 d) := hc0
      have hdl := HD.out.at d1.out
      have hdi : (d : Int) ≤ 4294967295 := by omega
      have hki : (i : Int) < (ds.length : Int) := by omega
      by_cases hlm : i < ms.length
      · obtain ⟨m, m1, m2, m3⟩ := get_lt hlm
        obtain ⟨b2, off2, rfl, hc02⟩ := (HC2.out.ext X).at m1
        have hcell2 : wr.cell? ⟨b2, off2 + i, none⟩ = some (.int .u32 m) := hc02
        have hmm := HM.out.at m1.out
        have hmmi : (m : Int) ≤ 4294967295 := by omega
        have hmk : (i : Int) < (ms.length : Int) := by omega
        have hi2 := HI.out
        rw [d2.out, m2.out, subL] at hi2
        simp only [List.headD_cons, List.tail_cons] at hi2
        obtain ⟨lo, hlo⟩ : ∃ lo, (d + 4294967296 - bo - m) % 4294967296 = lo := ⟨_, rfl⟩
        rw [hlo] at hi2
        by_cases hb : d < bo + m
        · rw [show bor d m bo = 1 from if_pos hb] at hi2
          have HI2 : Hid ((os ++ [lo]) ++ subL (ds.drop (i + 1)) (ms.drop (i + 1)) 1 = F) := by show _ = _; rw [List.append_assoc]; exact hi2
          have e4 : (d : Int) - (bo : Int) - (m : Int) < 0 := by omega
          have e3 : (d : Int) - (bo : Int) - (m : Int) + 4294967296 = (lo : Int) := by omega
          have hlo9 : (lo : Int) ≤ 4294967295 := by omega
          clear hi2 hlo hc0 hc02 hb
          go_wp2_with (at_builtin; refine wp_app1 (s := .tmp 39) (x := .tmp 42) (y := .int .u32 lo) rfl rfl ei_nat HO rfl rfl rfl rfl (by omega) (by omega) (by omega) ?_; intro v' w' hown hgrew)
          go_roundw
          case rel => exact ⟨i + 1, 1, os ++ [lo], by omega, by go_num, rfl, by omega, by rw [List.length_append, HOL.out]; rfl, own_cast hown (by simp [encD]) rfl, hgrew.extNew X HO (Nat.le_refl _), HI2⟩
          case measure => simp [intOf]; omega
        · rw [show bor d m bo = 0 from if_neg hb] at hi2
          have HI2 : Hid ((os ++ [lo]) ++ subL (ds.drop (i + 1)) (ms.drop (i + 1)) 0 = F) := by show _ = _; rw [List.append_assoc]; exact hi2
          have e3 : (d : Int) - (bo : Int) - (m : Int) = (lo : Int) := by omega
          have hlo9 : (lo : Int) ≤ 4294967295 := by omega
          clear hi2 hlo hc0 hc02 hb
          go_wp2_with (at_builtin; refine wp_app1 (s := .tmp 39) (x := .tmp 42) (y := .int .u32 lo) rfl rfl ei_nat HO rfl rfl rfl rfl (by omega) (by omega) (by omega) ?_; intro v' w' hown hgrew)
          go_roundw
          case rel => exact ⟨i + 1, 0, os ++ [lo], by omega, by go_num, rfl, by omega, by rw [List.length_append, HOL.out]; rfl, own_cast hown (by simp [encD]) rfl, hgrew.extNew X HO (Nat.le_refl _), HI2⟩
          case measure => simp [intOf]; omega
      · have hmk : (ms.length : Int) ≤ (i : Int) := by omega
        have hi2 := HI.out
        rw [d2.out, List.drop_eq_nil_of_le (by omega : ms.length ≤ i), subL] at hi2
        simp only [List.headD_nil, List.tail_nil, Nat.sub_zero] at hi2
        obtain ⟨lo, hlo⟩ : ∃ lo, (d + 4294967296 - bo) % 4294967296 = lo := ⟨_, rfl⟩
        rw [hlo] at hi2
        by_cases hb : d < bo + 0
        · rw [show bor d 0 bo = 1 from if_pos hb] at hi2
          have HI2 : Hid ((os ++ [lo]) ++ subL (ds.drop (i + 1)) (ms.drop (i + 1)) 1 = F) := by
            show _ = _
            rw [List.append_assoc, List.drop_eq_nil_of_le (by omega : ms.length ≤ i + 1)]; exact hi2
          have e4 : (d : Int) - (bo : Int) < 0 := by omega
          have e3 : (d : Int) - (bo : Int) + 4294967296 = (lo : Int) := by omega
          have hlo9 : (lo : Int) ≤ 4294967295 := by omega
          clear hi2 hlo hc0 hb
          go_wp2_with (at_builtin; refine wp_app1 (s := .tmp 39) (x := .tmp 42) (y := .int .u32 lo) rfl rfl ei_nat HO rfl rfl rfl rfl (by omega) (by omega) (by omega) ?_; intro v' w' hown hgrew)
          go_roundw
          case rel => exact ⟨i + 1, 1, os ++ [lo], by omega, by go_num, rfl, by omega, by rw [List.length_append, HOL.out]; rfl, own_cast hown (by simp [encD]) rfl, hgrew.extNew X HO (Nat.le_refl _), HI2⟩
          case measure => simp [intOf]; omega
        · rw [show bor d 0 bo = 0 from if_neg hb] at hi2
          have HI2 : Hid ((os ++ [lo]) ++ subL (ds.drop (i + 1)) (ms.drop (i + 1)) 0 = F) := by
            show _ = _
            rw [List.append_assoc, List.drop_eq_nil_of_le (by omega : ms.length ≤ i + 1)]; exact hi2
          have e3 : (d : Int) - (bo : Int) = (lo : Int) := by omega
          have hlo9 : (lo : Int) ≤ 4294967295 := by omega
          clear hi2 hlo hc0 hb
          go_wp2_with (at_builtin; refine wp_app1 (s := .tmp 39) (x := .tmp 42) (y := .int .u32 lo) rfl rfl ei_nat HO rfl rfl rfl rfl (by omega) (by omega) (by omega) ?_; intro v' w' hown hgrew)
          go_roundw
          case rel => exact ⟨i + 1, 0, os ++ [lo], by omega, by go_num, rfl, by omega, by rw [List.length_append, HOL.out]; rfl, own_cast hown (by simp [encD]) rfl, hgrew.extNew X HO (Nat.le_refl _), HI2⟩
          case measure => simp [intOf]; omega
    · have hil : i = ds.length := by omega
      subst hil
      have hi2 := HI.out
      rw [List.drop_length, subL, List.append_nil] at hi2
      have hval : Hid (val os = val ds - val ms) := by show _ = _; rw [hi2, ← HF.out, val_subL ds ms 0 HD.out HM.out hml (by omega) HLE.out]; rfl
      have hdg : Hid (Dg os) := by show Dg _; rw [hi2, ← HF.out]; exact dg_subL ds ms 0
      clear hi2
      go_wp2_with fail
      refine (norm_own _ _ os _ HO (by omega) hdg.out).mono ?_
      rintro e w3 ⟨u, rfl, hn, _, rfl⟩
      go_wp2_with fail
      go_ret
      exact ⟨u, rfl, by rw [← hval.out]; exact hn, X⟩

theorem sub_any (v u : Value) (n m : Nat) (w : World) (hv : NatV w v n) (hu : NatV w u m) (hl : (dig n).length ≤ 1073741824) (hle : m ≤ n) :
    Calls Tryz.prog 68 #[v, u] w fun e w' => ∃ r, e = .returned r ∧ NatV w' r (n - m) ∧ Ext w w' := by
  have := sub_le v u (dig n) (dig m) w hv hu (dig_dg n) (dig_dg m) (dig_len_le hle) hl (by rw [val_dig, val_dig]; exact hle)
  rw [val_dig, val_dig] at this
  exact this
end Go.Proofs.YtecfphohmgbddaaGreatDoor
