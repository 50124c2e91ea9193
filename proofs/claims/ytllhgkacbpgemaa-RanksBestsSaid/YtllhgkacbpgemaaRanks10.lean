/- walks of the package ranks: valueOf, Class, Value -/
import Derived.Test.YtllhgkacbpgemaaRanks9
namespace Go.Proofs.Ytllhgkacbpgemaa
open Go.RowKit
set_option linter.unusedVariables false

def natI (l : List Nat) : List Int := l.map fun (x : Nat) => (x : Int)
def lpP (xs : List Int) : List Int := if classP xs = 8 ∨ classP xs = 4 then [strP (ordL (cntN xs))] else natI (ordL (cntN xs))
def valueP (xs : List Int) : Int := valF (classP xs) (padF (lpP xs))
structure GoodV (xs : List Int) : Prop where
  base : GoodP xs
  len : (lpP xs).length ≤ 5
  rng : ∀ d ∈ lpP xs, 0 ≤ d ∧ d ≤ 12
  lo : 0 ≤ classP xs
  hi : classP xs ≤ 10

theorem rowN_ints {W : World} {v : Value} {l : List Nat} (h : RowOf encN W v l) : Ints W v (natI l) := by
  have e : (natI l).map (Value.int .i64) = l.map encN := by rw [natI, List.map_map]; rfl
  show Row W v _
  rw [e]
  exact h

theorem padF_at {l : List Int} (k : Nat) (hk : k < 5) : Hid ((padF l).take (k + 1) = (padF l).take k ++ [l.getD k 0]) := by
  show _ = _
  have hlen : k < (padF l).length := by rw [padF, List.length_append, List.length_replicate]; omega
  have hg : (padF l)[k]? = some (l.getD k 0) := by
    rw [padF, List.getD_eq_getElem?_getD]
    by_cases h : k < l.length
    · rw [List.getElem?_append_left h, List.getElem?_eq_getElem h]; rfl
    · rw [List.getElem?_append_right (by omega), List.getElem?_eq_none (l := l) (by omega), List.getElem?_replicate, if_pos (by omega)]; rfl
  rw [List.take_add_one, hg]; rfl

set_option maxHeartbeats 1600000 in
set_option maxRecDepth 100000 in
theorem valueOf_any (v : Value) (xs : List Int) (w : World) (hv : Ints w v xs) (hx : ∀ x ∈ xs, 0 ≤ x ∧ x ≤ 51) (h52 : xs.length ≤ 52) (hg : GoodV xs) (q : Int) (hq : Hid (valueP xs = q)) :
    Calls Try.prog 66 #[v] w fun e w' => e = .returned (.int .i64 q) ∧ Ext w w' := by
  obtain ⟨z, hz⟩ : ∃ z, Hid (classP xs = z) := ⟨_, rfl⟩
  have HO := Lib.hid (fun (W : World) (hW : Ext w W) => order_any v xs W (hv.ext hW) hx h52 hg.base.len hg.base.pos)
  have HC := Lib.hid (fun (W : World) (hW : Ext w W) => classOf_any v xs W (hv.ext hW) hx h52 hg.base z hz)
  have hlo := hg.lo
  have hhi := hg.hi
  rw [hz.out] at hlo hhi
  obtain ⟨LP, hLP⟩ : ∃ LP, Hid (lpP xs = LP) := ⟨_, rfl⟩
  have hll := hg.len
  have hrr := hg.rng
  have hq2 := hq.out
  have hlp2 := hLP.out
  rw [valueP, hz.out, hLP.out] at hq2
  rw [hLP.out] at hll hrr
  rw [lpP, hz.out] at hlp2
  have HQ := Lib.hid hq2
  have HRR := Lib.hid hrr
  have HLP := Lib.hid hlp2
  have hM13 : ∀ x ∈ ordL (cntN xs), x < 13 := fun x h => rankL_lt (isort_mem h)
  have HM13 := Lib.hid hM13
  obtain ⟨ao, c, rfl, hlen, hc⟩ := hv.open
  clear hv hx hc hg hq hq2 hlp2 hrr hz hM13
  go_enter Try.func66, Try.ntmps66
  go_wp2_with fail
  refine (HO.out _ (by exact Ext.refl w)).mono ?_
  rintro e w1 hP
  obtain ⟨u1, u2, rfl, R1, R2, hx1⟩ := hP
  have HR1 := Lib.hid R1
  clear R1 R2
  go_wp2_with fail
  refine (HC.out _ (by exact hx1)).mono ?_
  rintro e w2 ⟨rfl, hx2⟩
  go_upto_region 3 with fail
  go_cut [19] from 14 to 19 (fun s19 wx => ∃ b, s19 = .bool b ∧ Hid (b = decide (z = 8 ∨ z = 4)) ∧ w2 = wx)
  case first =>
    by_cases h8 : z = 8
    · subst h8
      go_wp2_with fail
      go_meet
      exact ⟨true, rfl, by simp [Hid], rfl⟩
    · have hb8 : (z == 8) = false := by rw [beq_eq_false_iff_ne]; exact h8
      by_cases h4 : z = 4
      · subst h4
        clear h8
        go_wp2_with fail
        go_meet
        exact ⟨true, rfl, by simp [Hid], rfl⟩
      · have hb4 : (z == 4) = false := by rw [beq_eq_false_iff_ne]; exact h4
        have hbb : Hid (false = decide (z = 8 ∨ z = 4)) := by simp [Hid, h8, h4]
        clear h8 h4
        go_wp2_with fail
        go_meet
        exact ⟨false, rfl, hbb, rfl⟩
  case rest =>
  obtain ⟨b, rfl, hb, rfl⟩ := hcut
  go_upto_if 19 with fail
  go_cut [3] from 20 to 22 (fun s3 wx => Ints wx s3 LP ∧ Ext w2 wx)
  case first =>
    by_cases h84 : z = 8 ∨ z = 4
    · have hbt : b = true := by rw [hb.out]; simp [h84]
      subst hbt
      have hl := HLP.out
      rw [if_pos h84] at hl
      subst hl
      have HST := Lib.hid (straightP_any u1 (ordL (cntN xs)) w2 (HR1.out.ext hx2) HM13.out (strP (ordL (cntN xs))) rfl)
      clear h84 HLP hb
      generalize strP (ordL (cntN xs)) = s at *
      go_wp2_with fail
      refine HST.out.mono ?_
      rintro e w3 ⟨rfl, hx3⟩
      go_wp2_with fail
      go_meet
      exact ⟨lit_ints_at _ _ [s] (by simp) _ rfl, hx3.alloc _⟩
    · have hbf : b = false := by rw [hb.out]; simp [h84]
      subst hbf
      have hl := HLP.out
      rw [if_neg h84] at hl
      subst hl
      clear h84 HLP hb
      go_wp2_with fail
      go_meet
      exact ⟨(rowN_ints HR1.out).ext hx2, Ext.refl _⟩
  case rest =>
    obtain ⟨HL, HX⟩ := hcut
    obtain ⟨lo, lc, rfl, _, hlc⟩ := HL.open
    have HLC := Lib.hid hlc
    have X3 := (hx1.trans hx2).trans HX
    clear HL hlc
    go_wp2_with fail
    go_loop [5, 23] (fun a i => ∃ (k : Nat) (z2 : Int), k ≤ 5 ∧ i = .int .i64 k ∧ a = .int .i64 z2 ∧ 0 ≤ z2 ∧ z2 < pow13 k ∧ Hid (valF z ((padF LP).take k) = z2)) (fun _ i => 5 - (intOf i).toNat)
    case atStart => exact ⟨0, z, by omega, rfl, rfl, hlo, by simp [pow13]; omega, rfl⟩
    case round =>
      obtain ⟨k, z2, hk, rfl, rfl, hz0, hz1, HZ⟩ := hrel
      by_cases hlt : k < 5
      · have hpa := padF_at (l := LP) k hlt
        have hpk := pow13_le k hlt
        have hz2 : z2 ≤ 371293 := by omega
        have hpk1 : pow13 (k + 1) = 13 * pow13 k := rfl
        have hzz : (13 : Int) * z2 = z2 * 13 := Int.mul_comm _ _
        by_cases hkl : k < LP.length
        · obtain ⟨d, x1, _, _⟩ := get_lt hkl
          obtain ⟨bk, off, rfl, hcell⟩ := HLC.out.at x1
          obtain ⟨hd0, hd12⟩ := HRR.out d (List.mem_of_getElem? x1.out)
          rw [getD_of x1] at hpa
          have HZ2 : Hid (valF z ((padF LP).take (k + 1)) = z2 * 13 + d) := by show _ = _; rw [hpa.out, valF_snoc, HZ.out, hzz]
          have HB : Hid (z2 * 13 + d < pow13 (k + 1)) := by show _ < _; rw [hpk1]; omega
          clear hpk1 hpk hz1 hzz
          go_wp2_with fail
          go_round
          case rel => exact ⟨k + 1, z2 * 13 + d, by omega, by go_num, rfl, by omega, HB.out, HZ2.out⟩
          case measure => simp [intOf]; omega
        · have hd : LP.getD k 0 = 0 := by rw [List.getD_eq_getElem?_getD, List.getElem?_eq_none (by omega)]; rfl
          rw [hd] at hpa
          have HZ2 : Hid (valF z ((padF LP).take (k + 1)) = z2 * 13) := by show _ = _; rw [hpa.out, valF_snoc, HZ.out, hzz, Int.add_zero]
          have HB : Hid (z2 * 13 < pow13 (k + 1)) := by show _ < _; rw [hpk1]; omega
          clear hpk1 hpk hz1 hzz hd
          go_wp2_with fail
          go_round
          case rel => exact ⟨k + 1, z2 * 13, by omega, by go_num, rfl, by omega, HB.out, HZ2.out⟩
          case measure => simp [intOf]; omega
      · have hk5 : k = 5 := by omega
        subst hk5
        have hq3 : z2 = q := by
          have h1 := HZ.out
          rw [List.take_of_length_le (by rw [padF, List.length_append, List.length_replicate]; omega)] at h1
          rw [← h1]; exact HQ.out
        subst hq3
        clear hz1
        go_wp2_with fail
        go_ret
        exact ⟨rfl, X3⟩
end Go.Proofs.Ytllhgkacbpgemaa
