/- walks of package nat: two, result, Add, Sub, Mul, Compare -/
import Derived.Test.YtecfphohmgbddaaGreatDoorNat1
namespace Go.Proofs.YtecfphohmgbddaaGreatDoor
open Go.RowKit
set_option linter.unusedVariables false

theorem natErr_zero {s : ByteArray} (h : natErr s = 0) : Canon s.data.toList ∧ s.size ≤ 2000 := by
  unfold natErr at h
  split at h
  · rename_i h1
    split at h
    · cases h
    · exact ⟨natB_iff.1 h1, by omega⟩
  · cases h

/-- a text of a number is the text of its number -/
theorem natErr_text {s : ByteArray} (h : natErr s = 0) : s = decT (numB s) := by
  have h1 := canon_dd (natErr_zero h).1
  unfold decT numB
  rw [← h1]

theorem numB_lt {s : ByteArray} (h : natErr s = 0) : numB s < 10 ^ s.size := by
  have := decF_lt (natErr_zero h).1.1
  rw [bsz] at this
  exact this

theorem pow10_B (k : Nat) : 10 ^ k ≤ 4294967296 ^ k := Nat.pow_le_pow_left (by omega) k

theorem dig_le10 {n k K : Nat} (h : n < 10 ^ k) (hk : k ≤ K) : (dig n).length ≤ K :=
  dig_len_lt (Nat.lt_of_lt_of_le h (Nat.le_trans (pow10_B _) (Nat.pow_le_pow_right (by omega) hk)))
theorem numB_dig {s : ByteArray} (h : natErr s = 0) : (dig (numB s)).length ≤ 2000 := dig_le10 (numB_lt h) (natErr_zero h).2

theorem readN_any (s : ByteArray) (w : World) (h : natErr s = 0) :
    Calls Tryz.prog 82 #[.string s] w fun e w' => ∃ u, e = .returned u ∧ NatV w' u (numB s) ∧ Ext w w' :=
  read_any s w (by have := (natErr_zero h).2; omega) (natErr_zero h).1.1 (by have := numB_dig h; unfold numB at this; omega)

def twoErr (a b : ByteArray) : Int := if natErr a ≠ 0 then natErr a else natErr b
theorem twoErr_zero {a b : ByteArray} (h : twoErr a b = 0) : natErr a = 0 ∧ natErr b = 0 := by
  unfold twoErr at h
  split at h
  · contradiction
  · rename_i h1
    exact ⟨by simpa using h1, h⟩

def TwoPost (a b : ByteArray) (w : World) (e : Ending) (w' : World) : Prop :=
  ∃ u v, e = .returned (.tuple #[u, v, .int .i64 (twoErr a b)]) ∧ Ext w w' ∧ (twoErr a b = 0 → NatV w' u (numB a) ∧ NatV w' v (numB b))

set_option maxHeartbeats 800000 in
set_option maxRecDepth 100000 in
theorem two_any (a b : ByteArray) (w : World) (ha : a.size ≤ 9223372036854775807) (hb : b.size ≤ 9223372036854775807) :
    Calls Tryz.prog 64 #[.string a, .string b] w (TwoPost a b w) := by
  obtain ⟨p, hp⟩ : ∃ p, Hid (natErr a = p) := ⟨_, rfl⟩
  obtain ⟨q, hq⟩ : ∃ q, Hid (natErr b = q) := ⟨_, rfl⟩
  have HA := Lib.hid (fun W => natCheck_any a W ha p hp)
  have HB := Lib.hid (fun W => natCheck_any b W hb q hq)
  by_cases hp0 : p = 0
  · subst hp0
    have ht : Hid (twoErr a b = q) := by show _ = _; rw [twoErr, hp.out, if_neg (by simp), hq.out]
    by_cases hq0 : q = 0
    · subst hq0
      have HRA := Lib.hid (fun W => readN_any a W hp.out)
      have HRB := Lib.hid (fun W => readN_any b W hq.out)
      go_enter Tryz.func64, Tryz.ntmps64
      go_wp2_with fail
      refine (HA.out _).mono ?_
      rintro e w1 ⟨rfl, X1⟩
      go_wp2_with fail
      refine (HB.out _).mono ?_
      rintro e w2 ⟨rfl, X2⟩
      go_wp2_with fail
      refine (HRA.out _).mono ?_
      rintro e w3 ⟨u, rfl, hu, X3⟩
      go_wp2_with fail
      refine (HRB.out _).mono ?_
      rintro e w4 ⟨v, rfl, hv, X4⟩
      go_wp2_with fail
      go_ret3
      exact ⟨u, v, by rw [ht.out]; rfl, ((X1.trans X2).trans X3).trans X4, fun _ => ⟨hu.ext X4, hv⟩⟩
    · have hqb : (q != 0) = true := by simp [hq0]
      have hne : Hid (twoErr a b ≠ 0) := by show _ ≠ _; rw [ht.out]; exact hq0
      clear hq0
      go_enter Tryz.func64, Tryz.ntmps64
      go_wp2_with fail
      refine (HA.out _).mono ?_
      rintro e w1 ⟨rfl, X1⟩
      go_wp2_with fail
      refine (HB.out _).mono ?_
      rintro e w2 ⟨rfl, X2⟩
      go_wp2_with fail
      go_ret3
      exact ⟨_, _, by rw [ht.out]; rfl, X1.trans X2, fun h => absurd h hne.out⟩
  · have ht : Hid (twoErr a b = p) := by show _ = _; rw [twoErr, hp.out, if_pos hp0]
    have hpb : (p != 0) = true := by simp [hp0]
    have hne : Hid (twoErr a b ≠ 0) := by show _ ≠ _; rw [ht.out]; exact hp0
    clear hp0
    go_enter Tryz.func64, Tryz.ntmps64
    go_wp2_with fail
    refine (HA.out _).mono ?_
    rintro e w1 ⟨rfl, X1⟩
    go_wp2_with fail
    go_ret3
    exact ⟨_, _, by rw [ht.out]; rfl, X1, fun h => absurd h hne.out⟩

/-- the text of a number, if it is not too long -/
def resF (n : Nat) : ByteArray × Int := if 2000 < (Lib.decDigits n).length then (⟨#[]⟩, 2) else (decT n, 0)

theorem decT_size (n : Nat) : (decT n).size = (Lib.decDigits n).length := by rw [← bsz, decT_list]

set_option maxHeartbeats 800000 in
set_option maxRecDepth 100000 in
theorem result_any (v : Value) (n : Nat) (w : World) (hv : NatV w v n) (htab : TabPow w) (hl : (dig n).length ≤ 1073741824) (hT : (Lib.decDigits n).length ≤ 4294967295) :
    Calls Tryz.prog 65 #[v] w fun e w' => e = .returned (.tuple #[.string (resF n).1, .int .i64 (resF n).2]) ∧ Ext w w' := by
  have HT := Lib.hid (text_any v n w hv htab hl hT)
  obtain ⟨D, hD⟩ : ∃ D, decT n = D := ⟨_, rfl⟩
  have hs := decT_size n
  rw [hD] at HT hs
  by_cases h : 2000 < (Lib.decDigits n).length
  · have hr : Hid (resF n = (⟨#[]⟩, 2)) := if_pos h
    have hi : (2000 : Int) < (D.size : Int) := by omega
    clear h hs hD hv
    go_enter Tryz.func65, Tryz.ntmps65
    go_wp2_with fail
    refine HT.out.mono ?_
    rintro e w1 ⟨rfl, X1⟩
    go_wp2_with fail
    go_ret2
    exact ⟨by rw [hr.out]; rfl, X1⟩
  · have hr : Hid (resF n = (D, 0)) := by show _ = _; rw [← hD]; exact if_neg h
    have hi : (D.size : Int) ≤ 2000 := by omega
    clear h hs hD hv
    go_enter Tryz.func65, Tryz.ntmps65
    go_wp2_with fail
    refine HT.out.mono ?_
    rintro e w1 ⟨rfl, X1⟩
    go_wp2_with fail
    go_ret2
    exact ⟨by rw [hr.out]; rfl, X1⟩
end Go.Proofs.YtecfphohmgbddaaGreatDoor
