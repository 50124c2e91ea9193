/- walk of the reference: parts -/
import Derived.Test.YtmmdfijjpeglgaaGreatDoorRtC
import Derived.Test.YtmmdfijjpeglgaaGreatDoorNtD
namespace Go.Proofs.YtmmdfijjpeglgaaGreatDoor
open Go.RowKit
set_option linter.unusedVariables false

set_option maxHeartbeats 1600000 in
set_option maxRecDepth 100000 in
theorem rparts_pos_miss (s b n d : ByteArray) (w : World) (hs : s.size ≤ 9223372036854775806)
    (hlt : 0 < s.size) (h45 : s[0] ≠ 45) (hb : b = s) (h47b : ∀ k (h : k < b.size), b[k] ≠ 47) (hn : n = b) (hd : d = ⟨#[49]⟩) :
    Calls Tryz.prog 82 #[.string s] w fun e w' => e = .returned (.tuple #[.bool false, .string n, .string d]) ∧ Ext w w' := by
  have hst : (s.size : Int) ≤ 9223372036854775806 := by omega
  have hs0 : (0 : Int) < (s.size : Int) := by omega
  have hbs : b.size ≤ 9223372036854775806 := by
    rw [hb]; exact hs
  have hbsi : (b.size : Int) ≤ 9223372036854775806 := by omega
  have hb45 : ((s[0].toNat : Int) == 45) = false := by
    rw [beq_eq_false_iff_ne]
    intro e
    apply h45
    apply UInt8.toNat_inj.1
    have : (45 : UInt8).toNat = 45 := rfl
    omega
  subst hb
  subst hn
  subst hd
  have H47 := Lib.hid h47b
  clear h45 h47b
  go_enter Tryz.func82, Tryz.ntmps82
  go_wp2_with fail
  go_loopw [17] (fun iv wr => ∃ (i : Nat), i ≤ n.size ∧ iv = .int .i64 i ∧ Ext w wr) (fun iv _ => n.size - (intOf iv).toNat)
  case atStart => exact ⟨0, Nat.zero_le _, rfl, Ext.refl _⟩
  case round =>
    obtain ⟨i, hi, rfl, X⟩ := hrel
    by_cases hlt2 : i < n.size
    · have hne := H47.out i hlt2
      have hbi : ((n[i].toNat : Int) == 47) = false := by
        rw [beq_eq_false_iff_ne]
        intro e
        apply hne
        apply UInt8.toNat_inj.1
        have : (47 : UInt8).toNat = 47 := rfl
        omega
      have hki : (i : Int) < (n.size : Int) := by omega
      clear hne
      go_wp2_with fail
      go_roundw
      case rel => exact ⟨i + 1, by omega, by go_num, X⟩
      case measure => simp [intOf]; omega
    · have hki : (n.size : Int) ≤ (i : Int) := by omega
      clear hlt2
      go_wp2_with fail
      refine bodyPost_ret (v := .tuple #[.bool false, .string n, .string ⟨#[49]⟩]) (by simp [results, Tryz.results82, go_sem]) rfl ?_
      exact ⟨rfl, X⟩

set_option maxHeartbeats 1600000 in
set_option maxRecDepth 100000 in
theorem rparts_pos_hit (s b n d : ByteArray) (i0 : Nat) (w : World) (hs : s.size ≤ 9223372036854775806)
    (hlt : 0 < s.size) (h45 : s[0] ≠ 45) (hb : b = s) (hi0 : i0 < b.size) (h47 : b[i0] = 47) (h47b : ∀ k (h : k < b.size), k < i0 → b[k] ≠ 47) (hn : b.extract 0 i0 = n) (hd : b.extract (i0 + 1) b.size = d) :
    Calls Tryz.prog 82 #[.string s] w fun e w' => e = .returned (.tuple #[.bool false, .string n, .string d]) ∧ Ext w w' := by
  have hst : (s.size : Int) ≤ 9223372036854775806 := by omega
  have hs0 : (0 : Int) < (s.size : Int) := by omega
  have hbs : b.size ≤ 9223372036854775806 := by
    rw [hb]; exact hs
  have hbsi : (b.size : Int) ≤ 9223372036854775806 := by omega
  have hb45 : ((s[0].toNat : Int) == 45) = false := by
    rw [beq_eq_false_iff_ne]
    intro e
    apply h45
    apply UInt8.toNat_inj.1
    have : (45 : UInt8).toNat = 45 := rfl
    omega
  subst hb
  have H47 := Lib.hid h47b
  clear h45 h47b
  go_enter Tryz.func82, Tryz.ntmps82
  go_wp2_with fail
  go_loopw [17] (fun iv wr => ∃ (i : Nat), i ≤ i0 ∧ iv = .int .i64 i ∧ Ext w wr) (fun iv _ => b.size - (intOf iv).toNat)
  case atStart => exact ⟨0, Nat.zero_le _, rfl, Ext.refl _⟩
  case round =>
    obtain ⟨i, hii, rfl, X⟩ := hrel
    have hlt2 : i < b.size := by omega
    have hki : (i : Int) < (b.size : Int) := by omega
    by_cases heq : i = i0
    · subst heq
      have hbi : ((b[i].toNat : Int) == 47) = true := by rw [h47]; rfl
      have hk1 : (i : Int) + 1 ≤ (b.size : Int) := by omega
      have hk2 : (i : Int) ≤ (b.size : Int) := by omega
      have e5 : ((i : Int) + 1).toNat = i + 1 := by omega
      have w5 : IntKind.i64.wrap ((i : Int) + 1) = (i : Int) + 1 := IntWalk.i64_in _ (by omega)
      go_wp2_with fail
      go_quiet (fail)
      go_wp2_with fail
      subst hn
      subst hd
      refine bodyPost_ret (v := .tuple #[.bool false, .string (b.extract 0 i), .string (b.extract (i + 1) b.size)]) (by simp [results, Tryz.results82, go_sem]) rfl ?_
      exact ⟨rfl, X.drewN _⟩
    · have hne := H47.out i hlt2 (by omega)
      have hbi : ((b[i].toNat : Int) == 47) = false := by
        rw [beq_eq_false_iff_ne]
        intro e
        apply hne
        apply UInt8.toNat_inj.1
        have : (47 : UInt8).toNat = 47 := rfl
        omega
      clear hne
      go_wp2_with fail
      go_roundw
      case rel => exact ⟨i + 1, by omega, by go_num, X⟩
      case measure => simp [intOf]; omega

set_option maxHeartbeats 1600000 in
set_option maxRecDepth 100000 in
theorem rparts_neg_miss (s b n d : ByteArray) (w : World) (hs : s.size ≤ 9223372036854775806)
    (hlt : 0 < s.size) (h45 : s[0] = 45) (hb : s.extract 1 s.size = b) (h47b : ∀ k (h : k < b.size), b[k] ≠ 47) (hn : n = b) (hd : d = ⟨#[49]⟩) :
    Calls Tryz.prog 82 #[.string s] w fun e w' => e = .returned (.tuple #[.bool true, .string n, .string d]) ∧ Ext w w' := by
  have hst : (s.size : Int) ≤ 9223372036854775806 := by omega
  have hs0 : (0 : Int) < (s.size : Int) := by omega
  have hbs : b.size ≤ 9223372036854775806 := by
    rw [← hb, ByteArray.size_extract]; omega
  have hbsi : (b.size : Int) ≤ 9223372036854775806 := by omega
  have hb45 : ((s[0].toNat : Int) == 45) = true := by rw [h45]; rfl
  have hs1 : (1 : Int) ≤ (s.size : Int) := by omega
  subst hn
  subst hd
  have H47 := Lib.hid h47b
  clear h45 h47b
  go_enter Tryz.func82, Tryz.ntmps82
  go_wp2_with fail
  go_loopw [17] (fun iv wr => ∃ (i : Nat), i ≤ n.size ∧ iv = .int .i64 i ∧ Ext w wr) (fun iv _ => n.size - (intOf iv).toNat)
  case atStart => exact ⟨0, Nat.zero_le _, rfl, Ext.refl _⟩
  case round =>
    obtain ⟨i, hi, rfl, X⟩ := hrel
    by_cases hlt2 : i < n.size
    · have hne := H47.out i hlt2
      have hbi : ((n[i].toNat : Int) == 47) = false := by
        rw [beq_eq_false_iff_ne]
        intro e
        apply hne
        apply UInt8.toNat_inj.1
        have : (47 : UInt8).toNat = 47 := rfl
        omega
      have hki : (i : Int) < (n.size : Int) := by omega
      clear hne
      go_wp2_with fail
      go_roundw
      case rel => exact ⟨i + 1, by omega, by go_num, X⟩
      case measure => simp [intOf]; omega
    · have hki : (n.size : Int) ≤ (i : Int) := by omega
      clear hlt2
      go_wp2_with fail
      refine bodyPost_ret (v := .tuple #[.bool true, .string n, .string ⟨#[49]⟩]) (by simp [results, Tryz.results82, go_sem]) rfl ?_
      exact ⟨rfl, X⟩

set_option maxHeartbeats 1600000 in
set_option maxRecDepth 100000 in
theorem rparts_neg_hit (s b n d : ByteArray) (i0 : Nat) (w : World) (hs : s.size ≤ 9223372036854775806)
    (hlt : 0 < s.size) (h45 : s[0] = 45) (hb : s.extract 1 s.size = b) (hi0 : i0 < b.size) (h47 : b[i0] = 47) (h47b : ∀ k (h : k < b.size), k < i0 → b[k] ≠ 47) (hn : b.extract 0 i0 = n) (hd : b.extract (i0 + 1) b.size = d) :
    Calls Tryz.prog 82 #[.string s] w fun e w' => e = .returned (.tuple #[.bool true, .string n, .string d]) ∧ Ext w w' := by
  have hst : (s.size : Int) ≤ 9223372036854775806 := by omega
  have hs0 : (0 : Int) < (s.size : Int) := by omega
  have hbs : b.size ≤ 9223372036854775806 := by
    rw [← hb, ByteArray.size_extract]; omega
  have hbsi : (b.size : Int) ≤ 9223372036854775806 := by omega
  have hb45 : ((s[0].toNat : Int) == 45) = true := by rw [h45]; rfl
  have hs1 : (1 : Int) ≤ (s.size : Int) := by omega
  have H47 := Lib.hid h47b
  clear h45 h47b
  go_enter Tryz.func82, Tryz.ntmps82
  go_wp2_with fail
  go_loopw [17] (fun iv wr => ∃ (i : Nat), i ≤ i0 ∧ iv = .int .i64 i ∧ Ext w wr) (fun iv _ => b.size - (intOf iv).toNat)
  case atStart => exact ⟨0, Nat.zero_le _, rfl, Ext.refl _⟩
  case round =>
    obtain ⟨i, hii, rfl, X⟩ := hrel
    have hlt2 : i < b.size := by omega
    have hki : (i : Int) < (b.size : Int) := by omega
    by_cases heq : i = i0
    · subst heq
      have hbi : ((b[i].toNat : Int) == 47) = true := by rw [h47]; rfl
      have hk1 : (i : Int) + 1 ≤ (b.size : Int) := by omega
      have hk2 : (i : Int) ≤ (b.size : Int) := by omega
      have e5 : ((i : Int) + 1).toNat = i + 1 := by omega
      have w5 : IntKind.i64.wrap ((i : Int) + 1) = (i : Int) + 1 := IntWalk.i64_in _ (by omega)
      go_wp2_with fail
      go_quiet (fail)
      go_wp2_with fail
      subst hn
      subst hd
      refine bodyPost_ret (v := .tuple #[.bool true, .string (b.extract 0 i), .string (b.extract (i + 1) b.size)]) (by simp [results, Tryz.results82, go_sem]) rfl ?_
      exact ⟨rfl, X.drewN _⟩
    · have hne := H47.out i hlt2 (by omega)
      have hbi : ((b[i].toNat : Int) == 47) = false := by
        rw [beq_eq_false_iff_ne]
        intro e
        apply hne
        apply UInt8.toNat_inj.1
        have : (47 : UInt8).toNat = 47 := rfl
        omega
      clear hne
      go_wp2_with fail
      go_roundw
      case rel => exact ⟨i + 1, by omega, by go_num, X⟩
      case measure => simp [intOf]; omega
end Go.Proofs.YtmmdfijjpeglgaaGreatDoor
