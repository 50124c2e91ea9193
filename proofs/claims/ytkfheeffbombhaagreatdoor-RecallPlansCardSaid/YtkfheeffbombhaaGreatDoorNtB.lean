/- texts merged: NatF NatG -/
import Derived.Test.YtkfheeffbombhaaGreatDoorNtA
import Derived.Test.YtkfheeffbombhaaGreatDoorSlB
/- the walk of natFact -/
namespace Go.Proofs.YtkfheeffbombhaaGreatDoor
open Go.RowKit
set_option linter.unusedVariables false

end Go.Proofs.YtkfheeffbombhaaGreatDoor
/- walks: NatError of the reference; the law NatChecks -/
namespace Go.Proofs.YtkfheeffbombhaaGreatDoor
open Go.RowKit
set_option linter.unusedVariables false

theorem bdrop {s : ByteArray} {k : Nat} (h : k < s.size) : s.data.toList.drop k = s[k] :: s.data.toList.drop (k + 1) := by
  have h2 : k < s.data.toList.length := by rw [Array.length_toList]; exact h
  rw [List.drop_eq_getElem_cons h2]; rfl

set_option maxHeartbeats 1600000 in
set_option maxRecDepth 100000 in
theorem natError_any (s : ByteArray) (w : World) (hs : s.size ≤ 9223372036854775807) (q : Int) (hq : Hid (natErr s = q)) :
    Calls Tryz.prog 129 #[.string s] w fun e w' => e = .returned (.int .i64 q) ∧ Ext w w' := by
  have hq2 := hq.out
  rw [natErr] at hq2
  clear hq
  by_cases h0 : s.size = 0
  · have hn : natB s.data.toList = false := by rw [List.eq_nil_of_length_eq_zero (show s.data.toList.length = 0 by rw [bsz]; exact h0)]; rfl
    rw [hn, if_neg (by decide)] at hq2
    subst hq2
    have h0i : (s.size : Int) = 0 := by omega
    clear hn
    go_enter Tryz.func129, Tryz.ntmps129
    go_wp2_with fail
    go_ret
    exact ⟨rfl, Ext.refl _⟩
  · have hlt0 : 0 < s.size := by omega
    have hi0 : ((s.size : Int) == 0) = false := by rw [beq_eq_false_iff_ne]; omega
    have hie : s.data.toList.isEmpty = false := by
      rw [List.isEmpty_eq_false_iff]
      intro e
      have := congrArg List.length e
      rw [bsz] at this; exact h0 this
    have hh : s.data.toList.head? = some s[0] := by
      rw [List.head?_eq_getElem?, List.getElem?_eq_getElem (by rw [bsz]; exact hlt0)]; rfl
    rw [natB, hie, Bool.not_false, Bool.true_and, hh, bsz] at hq2
    cases ha : s.data.toList.all digB with
    | false =>
      rw [ha, Bool.false_and, if_neg (by decide)] at hq2
      subst hq2
      have HA : Hid ((s.data.toList.drop 0).all digB = false) := ha
      clear ha hh hie h0
      go_enter Tryz.func129, Tryz.ntmps129
      go_wp2_with fail
      go_loop [3] (fun i => ∃ k : Nat, k ≤ s.size ∧ i = .int .i64 k ∧ Hid ((s.data.toList.drop k).all digB = false)) (fun i => s.size - (intOf i).toNat)
      case atStart => exact ⟨0, Nat.zero_le _, rfl, HA⟩
      case round =>
        obtain ⟨k, hk, rfl, HI⟩ := hrel
        by_cases hlt : k < s.size
        · have hki : (k : Int) < (s.size : Int) := by omega
          have hi := HI.out
          rw [bdrop hlt, List.all_cons] at hi
          obtain ⟨c, hc⟩ : ∃ c : Nat, s[k].toNat = c := ⟨_, rfl⟩
          have hd : digB s[k] = (decide (48 ≤ c) && decide (c ≤ 57)) := by rw [digB, hc]
          rw [hd] at hi
          have hcc : c < 48 ∨ (48 ≤ c ∧ 57 < c) ∨ (48 ≤ c ∧ c ≤ 57) := by omega
          rcases hcc with h1 | ⟨h1, h2⟩ | ⟨h1, h2⟩
          · have h1i : (s[k].toNat : Int) < 48 := by omega
            clear hi hd hc
            go_wp2_with fail
            go_ret
            exact ⟨rfl, Ext.refl _⟩
          · have h1i : (48 : Int) ≤ (s[k].toNat : Int) := by omega
            have h2i : (57 : Int) < (s[k].toNat : Int) := by omega
            clear hi hd hc
            go_wp2_with fail
            go_ret
            exact ⟨rfl, Ext.refl _⟩
          · have h1i : (48 : Int) ≤ (s[k].toNat : Int) := by omega
            have h2i : (s[k].toNat : Int) ≤ 57 := by omega
            rw [decide_eq_true h1, decide_eq_true h2, Bool.and_self, Bool.true_and] at hi
            have HI2 := Lib.hid hi
            clear hi hd hc
            go_wp2_with fail
            go_round
            case rel => exact ⟨k + 1, by omega, by go_num, HI2⟩
            case measure => simp [intOf]; omega
        · exfalso
          have hi := HI.out
          rw [List.drop_eq_nil_of_le (by rw [bsz]; omega)] at hi
          cases hi
    | true =>
      rw [ha, Bool.true_and] at hq2
      have HA : Hid ((s.data.toList.drop 0).all digB = true) := ha
      have hcase : (1 < s.size ∧ s[0] = 48 ∧ q = 5) ∨ (s.size ≤ 1 ∧ q = 0) ∨ (1 < s.size ∧ s[0] ≠ 48 ∧ s.size ≤ 2000 ∧ q = 0) ∨ (1 < s.size ∧ s[0] ≠ 48 ∧ 2000 < s.size ∧ q = 2) := by
        by_cases h1 : s.size ≤ 1
        · have h1s : s.size = 1 := by omega
          refine .inr (.inl ⟨h1, ?_⟩)
          rw [← hq2, h1s]; simp
        · by_cases h4 : s[0] = 48
          · refine .inl ⟨by omega, h4, ?_⟩
            rw [← hq2, h4]
            have : ¬ s.size = 1 := by omega
            simp [this]
          · by_cases h5 : 2000 < s.size
            · refine .inr (.inr (.inr ⟨by omega, h4, h5, ?_⟩))
              rw [← hq2]; simp [h4, h5]
            · refine .inr (.inr (.inl ⟨by omega, h4, by omega, ?_⟩))
              rw [← hq2]; simp [h4, h5]
      have hz : s[0] = 48 ∨ s[0] ≠ 48 := Decidable.em _
      clear hq2 ha hh hie h0
      have hstep : Hid (∀ k (h : k < s.size), (s.data.toList.drop k).all digB = true → (48 : Int) ≤ (s[k].toNat : Int) ∧ (s[k].toNat : Int) ≤ 57 ∧ (s.data.toList.drop (k + 1)).all digB = true) := by
        intro k h hi
        rw [bdrop h, List.all_cons, Bool.and_eq_true, digB_iff] at hi
        exact ⟨by omega, by omega, hi.2⟩
      have h48 : Hid (s[0] = 48 → ((s[0].toNat : Int) == 48) = true) := by intro h; rw [h]; rfl
      have hn48 : Hid (s[0] ≠ 48 → ((s[0].toNat : Int) == 48) = false) := by
        intro h
        rw [beq_eq_false_iff_ne]
        intro e
        apply h
        apply UInt8.toNat_inj.1
        have : (48 : UInt8).toNat = 48 := rfl
        omega
      clear hz
      rcases hcase with ⟨h1, h2, rfl⟩ | ⟨h1, rfl⟩ | ⟨h1, h2, h3, rfl⟩ | ⟨h1, h2, h3, rfl⟩
      · have hb := h48.out h2
        have h1i : (1 : Int) < (s.size : Int) := by omega
        clear h2 h48 hn48
        go_enter Tryz.func129, Tryz.ntmps129
        go_wp2_with fail
        go_loop [3] (fun i => ∃ k : Nat, k ≤ s.size ∧ i = .int .i64 k ∧ Hid ((s.data.toList.drop k).all digB = true)) (fun i => s.size - (intOf i).toNat)
        case atStart => exact ⟨0, Nat.zero_le _, rfl, HA⟩
        case round =>
          obtain ⟨k, hk, rfl, HI⟩ := hrel
          by_cases hlt : k < s.size
          · have hki : (k : Int) < (s.size : Int) := by omega
            obtain ⟨h1i, h2i, hi⟩ := hstep.out k hlt HI.out
            have HI2 := Lib.hid hi
            clear hi
            go_wp2_with fail
            go_round
            case rel => exact ⟨k + 1, by omega, by go_num, HI2⟩
            case measure => simp [intOf]; omega
          · have hki : (s.size : Int) ≤ (k : Int) := by omega
            clear HI
            go_wp2_with fail
            go_ret
            exact ⟨rfl, Ext.refl _⟩
      · have h1i : (s.size : Int) ≤ 1 := by omega
        clear h48 hn48
        go_enter Tryz.func129, Tryz.ntmps129
        go_wp2_with fail
        go_loop [3] (fun i => ∃ k : Nat, k ≤ s.size ∧ i = .int .i64 k ∧ Hid ((s.data.toList.drop k).all digB = true)) (fun i => s.size - (intOf i).toNat)
        case atStart => exact ⟨0, Nat.zero_le _, rfl, HA⟩
        case round =>
          obtain ⟨k, hk, rfl, HI⟩ := hrel
          by_cases hlt : k < s.size
          · have hki : (k : Int) < (s.size : Int) := by omega
            obtain ⟨h1i, h2i, hi⟩ := hstep.out k hlt HI.out
            have HI2 := Lib.hid hi
            clear hi
            go_wp2_with fail
            go_round
            case rel => exact ⟨k + 1, by omega, by go_num, HI2⟩
            case measure => simp [intOf]; omega
          · have hki : (s.size : Int) ≤ (k : Int) := by omega
            clear HI
            go_wp2_with fail
            go_ret
            exact ⟨rfl, Ext.refl _⟩
      all_goals
        have hb := hn48.out h2
        have h1i : (1 : Int) < (s.size : Int) := by omega
        clear h2 h48 hn48
        go_enter Tryz.func129, Tryz.ntmps129
        go_wp2_with fail
        go_loop [3] (fun i => ∃ k : Nat, k ≤ s.size ∧ i = .int .i64 k ∧ Hid ((s.data.toList.drop k).all digB = true)) (fun i => s.size - (intOf i).toNat)
        case atStart => exact ⟨0, Nat.zero_le _, rfl, HA⟩
        case round =>
          obtain ⟨k, hk, rfl, HI⟩ := hrel
          by_cases hlt : k < s.size
          · have hki : (k : Int) < (s.size : Int) := by omega
            obtain ⟨h1i, h2i, hi⟩ := hstep.out k hlt HI.out
            have HI2 := Lib.hid hi
            clear hi
            go_wp2_with fail
            go_round
            case rel => exact ⟨k + 1, by omega, by go_num, HI2⟩
            case measure => simp [intOf]; omega
          · have hki : (s.size : Int) ≤ (k : Int) := by omega
            clear HI
            go_wp2_with fail
            go_ret
            exact ⟨rfl, Ext.refl _⟩

end Go.Proofs.YtkfheeffbombhaaGreatDoor
