/- texts merged: Nat1 Nat2 Nat3 Nat4 -/
import Derived.Test.YtkfheeffbombhaaGreatDoorWkC
import Derived.Lib.SlTrimSet
import Derived.Shelf.Strings.SlTrimAscii
/- walks of package nat: Digits, Check; of the reference: NatError -/
namespace Go.Proofs.YtkfheeffbombhaaGreatDoor
open Go.RowKit
set_option linter.unusedVariables false

def digB (b : UInt8) : Bool := decide (48 ≤ b.toNat) && decide (b.toNat ≤ 57)
/-- is a text one of a natural number -/
def natB (l : List UInt8) : Bool := !l.isEmpty && (l.all digB && (decide (l.head? ≠ some 48) || decide (l.length = 1)))
theorem digB_iff {b : UInt8} : digB b = true ↔ 48 ≤ b.toNat ∧ b.toNat ≤ 57 := by simp [digB]
theorem natB_iff {l : List UInt8} : natB l = true ↔ Canon l := by
  unfold natB Canon AllD
  simp only [Bool.and_eq_true, Bool.not_eq_true', List.isEmpty_eq_false_iff, List.all_eq_true, digB_iff, Bool.or_eq_true, decide_eq_true_eq]
  constructor
  · rintro ⟨h1, h2, h3⟩
    exact ⟨h2, h1, fun h => h3.resolve_left (fun hn => hn h)⟩
  · rintro ⟨h1, h2, h3⟩
    refine ⟨h2, h1, ?_⟩
    by_cases h : l.head? = some 48
    · exact .inr (h3 h)
    · exact .inl h

def natErr (s : ByteArray) : Int := if natB s.data.toList = true then (if 2000 < s.size then 2 else 0) else 5
def numB (s : ByteArray) : Nat := decF 0 s.data.toList

theorem isEmpty_zero {s : ByteArray} (h : s.size = 0) : s.toList.isEmpty = true := by
  rw [Lib.toList_data, List.isEmpty_iff]
  exact List.eq_nil_of_length_eq_zero (by rw [Array.length_toList]; exact h)
theorem isEmpty_pos {s : ByteArray} (h : s.size ≠ 0) : s.toList.isEmpty = false := by
  rw [Lib.toList_data, List.isEmpty_eq_false_iff]
  intro e
  have := congrArg List.length e
  rw [Array.length_toList] at this
  exact h this

def digitsT : ByteArray := ⟨#[48, 49, 50, 51, 52, 53, 54, 55, 56, 57]⟩
theorem digitsT_has (b : UInt8) : digitsT.data.toList.contains b = digB b := by
  have h : ∀ i : Fin 256, digitsT.data.toList.contains (UInt8.ofNat i.val) = digB (UInt8.ofNat i.val) := by decide +kernel
  have := h ⟨b.toNat, b.toNat_lt⟩
  simpa using this

theorem dropWhile_all {α : Type} {p : α → Bool} {l : List α} (h : l.all p = true) : l.dropWhile p = [] := by
  induction l with
  | nil => rfl
  | cons a t ih =>
    rw [List.all_cons, Bool.and_eq_true] at h
    rw [List.dropWhile_cons, if_pos h.1]; exact ih h.2
theorem dropWhile_some {α : Type} {p : α → Bool} {l : List α} (h : l.all p = false) : ∃ a t, l.dropWhile p = a :: t ∧ p a = false := by
  induction l with
  | nil => cases h
  | cons a t ih =>
    rw [List.dropWhile_cons]
    by_cases hp : p a = true
    · rw [if_pos hp]
      rw [List.all_cons, hp, Bool.true_and] at h
      exact ih h
    · rw [if_neg hp]
      exact ⟨a, t, rfl, by simpa using hp⟩

theorem trim_digits (l : List UInt8) : (Lib.trimS l digitsT.data.toList).isEmpty = l.all digB := by
  have hp : (fun b => digitsT.data.toList.contains b) = digB := funext digitsT_has
  unfold Lib.trimS Lib.trimRightS Lib.trimLeftS
  rw [hp]
  cases h : l.all digB with
  | true =>
    have e : l.reverse.dropWhile digB = [] := dropWhile_all (by rw [List.all_reverse]; exact h)
    rw [e]; rfl
  | false =>
    obtain ⟨a, t, h1, h2⟩ := dropWhile_some (p := digB) (l := l.reverse) (by rw [List.all_reverse]; exact h)
    rw [h1, List.reverse_cons]
    have : (t.reverse ++ [a]).all digB = false := by rw [List.all_append, List.all_cons, h2]; simp
    obtain ⟨b, u, h3, _⟩ := dropWhile_some this
    rw [h3]; rfl

theorem trim_any (s : ByteArray) (w : World) (hs : s.size ≤ 9223372036854775807) :
    Calls Tryz.prog 156 #[.string s, .string digitsT] w fun e w' => ∃ T : ByteArray, e = .returned (.string T) ∧ T.toList.isEmpty = s.data.toList.all digB ∧ Ext w w' := by
  refine (Any.strings_Trim_laid Tryz.lays160 (by kernel_rfl) s digitsT w hs (by decide) (fun j b hb => ascii_of_all (l := digitsT.data.toList) (by decide) j b hb)).mono ?_
  rintro e w' ⟨rfl, hb⟩
  exact ⟨_, rfl, by rw [Lib.toList_data, ← trim_digits], hb⟩

set_option maxHeartbeats 1600000 in
set_option maxRecDepth 100000 in
theorem digits_any (s : ByteArray) (w : World) (hs : s.size ≤ 9223372036854775807) :
    Calls Tryz.prog 124 #[.string s] w fun e w' => e = .returned (.bool (natB s.data.toList)) ∧ Ext w w' := by
  obtain ⟨q, hq⟩ : ∃ q, natB s.data.toList = q := ⟨_, rfl⟩
  rw [hq]
  have hT := Lib.hid (fun W => trim_any s W hs)
  by_cases h0 : s.size = 0
  · have he := isEmpty_zero h0
    have hq2 : Hid (q = false) := by
      show _ = _
      rw [← hq, List.eq_nil_of_length_eq_zero (show s.data.toList.length = 0 by rw [bsz]; exact h0)]; rfl
    clear hq h0
    go_enter Tryz.func124, Tryz.ntmps124
    go_wp2_with fail
    go_ret
    exact ⟨by rw [hq2.out]; rfl, Ext.refl _⟩
  · have he := isEmpty_pos h0
    have hne : s.data.toList ≠ [] := by
      intro e
      have := congrArg List.length e
      rw [bsz] at this; exact h0 this
    have hie : s.data.toList.isEmpty = false := List.isEmpty_eq_false_iff.2 hne
    rw [natB, hie, Bool.not_false, Bool.true_and] at hq
    cases ha : s.data.toList.all digB with
    | false =>
      rw [ha, Bool.false_and] at hq
      rw [ha] at hT
      have hq2 : Hid (q = false) := hq.symm
      clear hq h0 hne hie ha
      go_enter Tryz.func124, Tryz.ntmps124
      go_wp2_with fail
      refine (hT.out _).mono ?_
      rintro e w1 ⟨T, rfl, hTe, X1⟩
      go_wp2_with fail
      go_ret
      exact ⟨by rw [hq2.out]; rfl, X1⟩
    | true =>
      rw [ha, Bool.true_and] at hq
      rw [ha] at hT
      have hlt : 0 < s.size := by omega
      have hi0 : (0 : Int) < (s.size : Int) := by omega
      have hh : s.data.toList.head? = some s[0] := by
        rw [List.head?_eq_getElem?, List.getElem?_eq_getElem (by rw [bsz]; exact hlt)]; rfl
      rw [hh, bsz] at hq
      by_cases hz : s[0] = 48
      · have hb : ((s[0].toNat : Int) != 48) = false := by rw [hz]; rfl
        rw [hz] at hq
        have hb2 : Hid (decide (s.size = 1) = q) := by show _ = _; rw [← hq]; simp
        obtain ⟨q2, hq2⟩ : ∃ q2, (((s.size : Nat) : Int) == 1) = q2 := ⟨_, rfl⟩
        have hqq : Hid (q = q2) := by
          show _ = _
          rw [← hb2.out, ← hq2]
          by_cases h1 : s.size = 1
          · rw [h1]; rfl
          · rw [decide_eq_false h1]; symm; rw [beq_eq_false_iff_ne]; omega
        clear hq h0 hne hie ha hh hz hb2
        go_enter Tryz.func124, Tryz.ntmps124
        go_wp2_with fail
        refine (hT.out _).mono ?_
        rintro e w1 ⟨T, rfl, hTe, X1⟩
        go_wp2_with fail
        go_ret
        exact ⟨by rw [hqq.out]; rfl, X1⟩
      · have hb : ((s[0].toNat : Int) != 48) = true := by
          simp
          intro e
          apply hz
          apply UInt8.toNat_inj.1
          have : (48 : UInt8).toNat = 48 := rfl
          omega
        have hq2 : Hid (q = true) := by show _ = _; rw [← hq]; simp [hz]
        clear hq h0 hne hie ha hh hz
        go_enter Tryz.func124, Tryz.ntmps124
        go_wp2_with fail
        refine (hT.out _).mono ?_
        rintro e w1 ⟨T, rfl, hTe, X1⟩
        go_wp2_with fail
        go_ret
        exact ⟨by rw [hq2.out]; rfl, X1⟩

end Go.Proofs.YtkfheeffbombhaaGreatDoor
/- walks of package nat: two, result, Add, Sub, Mul, Compare -/
namespace Go.Proofs.YtkfheeffbombhaaGreatDoor
open Go.RowKit
set_option linter.unusedVariables false

theorem natErr_zero {s : ByteArray} (h : natErr s = 0) : Canon s.data.toList ∧ s.size ≤ 2000 := by
  unfold natErr at h
  split at h
  · rename_i h1
    split at h
    · cases h
    · exact ⟨natB_iff.1 h1, by omega⟩
  · cases h

/-- a text of a number is the text of its number -/
theorem natErr_text {s : ByteArray} (h : natErr s = 0) : s = decT (numB s) := by
  have h1 := canon_dd (natErr_zero h).1
  unfold decT numB
  rw [← h1]

theorem pow10_B (k : Nat) : 10 ^ k ≤ 4294967296 ^ k := Nat.pow_le_pow_left (by omega) k

theorem dig_le10 {n k K : Nat} (h : n < 10 ^ k) (hk : k ≤ K) : (dig n).length ≤ K :=
  dig_len_lt (Nat.lt_of_lt_of_le h (Nat.le_trans (pow10_B _) (Nat.pow_le_pow_right (by omega) hk)))
theorem decT_size (n : Nat) : (decT n).size = (Lib.decDigits n).length := by rw [← bsz, decT_list]

end Go.Proofs.YtkfheeffbombhaaGreatDoor
/- walks of package nat: Add, Sub, Mul, Compare, Divide, Gcd, product, Factorial, Binomial -/
namespace Go.Proofs.YtkfheeffbombhaaGreatDoor
open Go.RowKit
set_option linter.unusedVariables false

/-- a power of ten that stays one -/
def tenP (k : Nat) : Nat := 10 ^ k
theorem tenP_le {j k : Nat} (h : j ≤ k) : tenP j ≤ tenP k := Nat.pow_le_pow_right (by omega) h
theorem tenP_add (j k : Nat) : tenP j * tenP k = tenP (j + k) := (Nat.pow_add 10 j k).symm
theorem tenP_succ (k : Nat) : tenP (k + 1) = tenP k * 10 := Nat.pow_succ 10 k
end Go.Proofs.YtkfheeffbombhaaGreatDoor
/- walks of package nat: Factorial, Binomial -/
namespace Go.Proofs.YtkfheeffbombhaaGreatDoor
open Go.RowKit
set_option linter.unusedVariables false

end Go.Proofs.YtkfheeffbombhaaGreatDoor
