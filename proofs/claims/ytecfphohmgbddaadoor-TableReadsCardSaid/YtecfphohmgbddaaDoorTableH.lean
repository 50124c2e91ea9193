/- walk of the law TableReads -/
import Derived.Test.YtecfphohmgbddaaDoorTableG
namespace Go.Proofs.YtecfphohmgbddaaDoor
open Go.RowKit
set_option linter.unusedVariables false

theorem unpF_err {s : ByteArray} (h : (unpF s).1 ≠ 0) : (unpF s).2 = [] := by
  unfold unpF at h ⊢
  split
  · rfl
  · split
    · rfl
    · rename_i h1 h2
      rw [if_neg h1, if_neg h2] at h
      split
      · rename_i h3
        rw [if_pos h3] at h
        exact absurd rfl h
      · rfl

theorem unpF_len (s : ByteArray) : (unpF s).2.length ≤ 4096 := by
  unfold unpF
  split
  · exact Nat.zero_le _
  · split
    · exact Nat.zero_le _
    · split
      · exact unpL_len _ _ _ _ (Nat.le_refl _) (Nat.zero_le _)
      · exact Nat.zero_le _

set_option maxHeartbeats 1600000 in
set_option maxRecDepth 100000 in
theorem reads_walk (s : ByteArray) (i : Int) (w : World) (hs : s.size ≤ 140737488355328) (HV : StrV w) :
    Calls Tryd.prog 3 #[.string s, .int .i64 i] w fun e w' => e = .returned (.bool true) ∧ Ext w w' := by
  have HTF := Lib.hid (show TFact w from tableFact_any w HV)
  have HU := Lib.hid (fun W (hx : Ext w W) => unpack_any s W hs (HV.ext hx))
  have HR := Lib.hid (fun W (hx : Ext w W) => runs_any s W hs (HV.ext hx))
  obtain ⟨q, hq⟩ : ∃ q, (unpF s).1 = q := ⟨_, rfl⟩
  obtain ⟨l, hl⟩ : ∃ l, (unpF s).2 = l := ⟨_, rfl⟩
  obtain ⟨a, z, hz⟩ : ∃ a z, Hid (atF s i = (a, z)) := ⟨_, _, rfl⟩
  have HA := Lib.hid (fun W (hx : Ext w W) => at_any s i W hs (HV.ext hx) a z hz)
  have hz2 := hz.out
  rw [atF, hq, hl] at hz2
  have he : q ≠ 0 → l = [] := fun h => by rw [← hl]; exact unpF_err (by rw [hq]; exact h)
  have hlen : l.length ≤ 4096 := by rw [← hl]; exact unpF_len s
  have HQ := Lib.hid hq
  have HL := Lib.hid hl
  clear hq hl hz HV
  by_cases h0 : q = 0
  · subst h0
    rw [if_neg (by simp)] at hz2
    clear he
    have hpart : i < 0 ∨ (0 ≤ i ∧ (l.length : Int) ≤ i) ∨ ∃ k : Nat, i = (k : Int) ∧ k < l.length := by
      by_cases h1 : i < 0
      · exact .inl h1
      · by_cases h2 : (l.length : Int) ≤ i
        · exact .inr (.inl ⟨by omega, h2⟩)
        · exact .inr (.inr ⟨i.toNat, by omega, by omega⟩)
    rcases hpart with hi | ⟨hi0, hi⟩ | ⟨k, rfl, hk⟩
    · rw [if_pos (.inl hi)] at hz2
      simp only [Prod.mk.injEq] at hz2
      obtain ⟨rfl, rfl⟩ := hz2
      go_enter Tryd.func3, Tryd.ntmps3
      go_wp2_with fail
      refine HTF.out.mono ?_
      rintro e w1 ⟨rfl, X1⟩
      go_wp2_with fail
      refine (HU.out _ X1).mono ?_
      rintro e w2 ⟨v2, rfl, X2, HI2⟩
      rw [HQ.out]
      rw [HL.out] at HI2
      go_wp2_with fail
      refine (HA.out _ (X1.trans X2)).mono ?_
      rintro e w3 ⟨rfl, X3⟩
      go_wp2_with fail
      refine (HR.out _ ((X1.trans X2).trans X3)).mono ?_
      rintro e w4 ⟨v4, rfl, X4, HI4⟩
      rw [HQ.out]
      rw [HL.out] at HI4
      have HI2b := (HI2.ext X3).ext X4
      clear HI2
      go_wp2_with fail
      refine (equal_ints _ _ l l _ HI2b HI4 true (by show _ = _; simp)).mono ?_
      rintro e w5 ⟨rfl, X5⟩
      obtain ⟨ao, c, rfl, _, _⟩ := HI4.open
      go_wp2_with fail
      go_ret
      exact ⟨rfl, (((X1.trans X2).trans X3).trans X4).trans X5⟩
    · rw [if_pos (.inr hi)] at hz2
      simp only [Prod.mk.injEq] at hz2
      obtain ⟨rfl, rfl⟩ := hz2
      go_enter Tryd.func3, Tryd.ntmps3
      go_wp2_with fail
      refine HTF.out.mono ?_
      rintro e w1 ⟨rfl, X1⟩
      go_wp2_with fail
      refine (HU.out _ X1).mono ?_
      rintro e w2 ⟨v2, rfl, X2, HI2⟩
      rw [HQ.out]
      rw [HL.out] at HI2
      go_wp2_with fail
      refine (HA.out _ (X1.trans X2)).mono ?_
      rintro e w3 ⟨rfl, X3⟩
      go_wp2_with fail
      refine (HR.out _ ((X1.trans X2).trans X3)).mono ?_
      rintro e w4 ⟨v4, rfl, X4, HI4⟩
      rw [HQ.out]
      rw [HL.out] at HI4
      have HI2b := (HI2.ext X3).ext X4
      clear HI2
      go_wp2_with fail
      refine (equal_ints _ _ l l _ HI2b HI4 true (by show _ = _; simp)).mono ?_
      rintro e w5 ⟨rfl, X5⟩
      obtain ⟨ao, c, rfl, _, _⟩ := HI4.open
      go_wp2_with fail
      go_ret
      exact ⟨rfl, (((X1.trans X2).trans X3).trans X4).trans X5⟩
    · rw [if_neg (by omega)] at hz2
      obtain ⟨x, x1, x2, _⟩ := get_lt hk
      have hx : l.getD k 0 = x := by rw [List.getD, x1.out]; rfl
      simp only [Prod.mk.injEq, Int.toNat_natCast, hx] at hz2
      obtain ⟨rfl, rfl⟩ := hz2
      have hki : (k : Int) < (l.length : Int) := by omega
      have hxx : (x == x) = true := by simp
      clear hx
      go_enter Tryd.func3, Tryd.ntmps3
      go_wp2_with fail
      refine HTF.out.mono ?_
      rintro e w1 ⟨rfl, X1⟩
      go_wp2_with fail
      refine (HU.out _ X1).mono ?_
      rintro e w2 ⟨v2, rfl, X2, HI2⟩
      rw [HQ.out]
      rw [HL.out] at HI2
      go_wp2_with fail
      refine (HA.out _ (X1.trans X2)).mono ?_
      rintro e w3 ⟨rfl, X3⟩
      go_wp2_with fail
      refine (HR.out _ ((X1.trans X2).trans X3)).mono ?_
      rintro e w4 ⟨v4, rfl, X4, HI4⟩
      rw [HQ.out]
      rw [HL.out] at HI4
      have HI2b := (HI2.ext X3).ext X4
      clear HI2
      go_wp2_with fail
      refine (equal_ints _ _ l l _ HI2b HI4 true (by show _ = _; simp)).mono ?_
      rintro e w5 ⟨rfl, X5⟩
      have HI5 := HI4.ext X5
      obtain ⟨ao, c, rfl, _, hc⟩ := HI5.open
      obtain ⟨b, off, rfl, hcell⟩ := hc.at x1
      clear HI5 hc
      go_wp2_with fail
      go_ret
      exact ⟨rfl, (((X1.trans X2).trans X3).trans X4).trans X5⟩
  · have hl0 := he h0
    subst hl0
    rw [if_pos h0] at hz2
    simp only [Prod.mk.injEq] at hz2
    obtain ⟨rfl, rfl⟩ := hz2
    have hqb : (q != 0) = true := by simp [h0]
    have hqq : (q == q) = true := by simp
    clear h0 he
    go_enter Tryd.func3, Tryd.ntmps3
    go_wp2_with fail
    refine HTF.out.mono ?_
    rintro e w1 ⟨rfl, X1⟩
    go_wp2_with fail
    refine (HU.out _ X1).mono ?_
    rintro e w2 ⟨v2, rfl, X2, HI2⟩
    rw [HQ.out]
    rw [HL.out] at HI2
    go_wp2_with fail
    refine (HA.out _ (X1.trans X2)).mono ?_
    rintro e w3 ⟨rfl, X3⟩
    go_wp2_with fail
    refine (HR.out _ ((X1.trans X2).trans X3)).mono ?_
    rintro e w4 ⟨v4, rfl, X4, HI4⟩
    rw [HQ.out]
    rw [HL.out] at HI4
    obtain ⟨ao, c, rfl, _, _⟩ := HI2.open
    go_wp2_with fail
    go_ret
    exact ⟨rfl, ((X1.trans X2).trans X3).trans X4⟩
end Go.Proofs.YtecfphohmgbddaaDoor
