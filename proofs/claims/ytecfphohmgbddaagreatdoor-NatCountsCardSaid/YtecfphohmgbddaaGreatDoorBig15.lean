/- walks of package big: Div and Gcd of all numbers -/
import Derived.Test.YtecfphohmgbddaaGreatDoorBig14
import Derived.Test.YtecfphohmgbddaaGreatDoorNat4
namespace Go.Proofs.YtecfphohmgbddaaGreatDoor
open Go.RowKit
set_option linter.unusedVariables false

theorem div_any (v u : Value) (n m : Nat) (w : World) (hv : NatV w v n) (hu : NatV w u m) (hm0 : 0 < m) (hl : (dig n).length ≤ 1073741823) :
    Calls Tryz.prog 74 #[v, u] w (DivPost n m w) := by
  by_cases h : n < m
  · exact div_lt v u n m w hv hu h
  · by_cases hm : m < 4294967296
    · exact div_small v u n m w hv hu hm0 hm (by omega)
    · have h1 : 1 < (dig m).length := by
        rcases Nat.lt_or_ge 1 (dig m).length with h1 | h1
        · exact h1
        · exfalso
          have h2 := lt_dig_len m
          have h3 : (4294967296 : Nat) ^ (dig m).length ≤ 4294967296 ^ 1 := Nat.pow_le_pow_right (by omega) h1
          rw [Nat.pow_one] at h3
          omega
      exact div_big v u n m ((dig m).length - 2) w hv hu (by omega) (by omega) hl

theorem divAt_any (n m : Nat) (hm0 : 0 < m) (hl : (dig n).length ≤ 1073741823) : DivAt n m :=
  fun v u W hv hu => div_any v u n m W hv hu hm0 hl

set_option maxHeartbeats 1600000 in
set_option maxRecDepth 100000 in
theorem gcd_any (v u : Value) (n m : Nat) (w : World) (hv : NatV w v n) (hu : NatV w u m) (hl : (dig n).length ≤ 1073741823) (hl2 : (dig m).length ≤ 1073741823) :
    Calls Tryz.prog 76 #[v, u] w fun e w' => ∃ r, e = .returned r ∧ NatV w' r (Nat.gcd n m) ∧ Ext w w' := by
  obtain ⟨wo, rfl⟩ : ∃ wo : World, wo = w := ⟨_, rfl⟩
  obtain ⟨F, hF⟩ : ∃ F, Nat.gcd n m = F := ⟨_, rfl⟩
  rw [hF]
  have HF := Lib.hid hF
  have HV := Lib.hid hv
  have HU := Lib.hid hu
  clear hF hv hu
  go_enter Tryz.func76, Tryz.ntmps76
  go_wp2_with fail
  go_loopg [0, 1] m (fun k nv mv wr => ∃ (a : Nat), NatV wr nv a ∧ NatV wr mv k ∧ (dig a).length ≤ 1073741823 ∧ (dig k).length ≤ 1073741823 ∧ Nat.gcd a k = F ∧ Ext wo wr)
  case atStart => exact ⟨n, HV.out, HU.out, hl, hl2, HF.out, Ext.refl _⟩
  case round =>
    obtain ⟨a, ha, hb, hla, hlk, hg, X⟩ := hrel
    have HG := Lib.hid hg
    clear hg
    by_cases h0 : gk = 0
    · subst h0
      have hfa : Hid (F = a) := by show _ = _; rw [← HG.out, Nat.gcd_zero_right]
      obtain ⟨bo, bc, rfl, _, _⟩ := hb.open
      have hz : (dig 0).length = 0 := by rw [dig_zero]; rfl
      rw [hz]
      clear hz hb
      go_wp2_with fail
      go_ret
      exact ⟨_, rfl, by rw [hfa.out]; exact ha, X⟩
    · have HD := Lib.hid (div_any _ _ a gk wr ha hb (by omega) hla)
      obtain ⟨bo, bc, rfl, _, _⟩ := hb.open
      have hd1 : 0 < (dig gk).length := by
        rcases Nat.eq_zero_or_pos (dig gk).length with h | h
        · exact absurd (dig_nil_iff.1 (List.eq_nil_of_length_eq_zero h)) h0
        · exact h
      have hnext : Hid (Nat.gcd gk (a % gk) = F) := by show _ = _; rw [← HG.out, Nat.gcd_comm a gk, Nat.gcd_rec gk a, Nat.gcd_comm]
      have hlt : Hid (a % gk < gk) := Nat.mod_lt _ (by omega)
      have hlr : Hid ((dig (a % gk)).length ≤ 1073741823) := Nat.le_trans (dig_len_le (Nat.mod_le _ _)) hla
      have HB1 := Lib.hid hb
      obtain ⟨lk, hlk2⟩ : ∃ lk, (dig gk).length = lk := ⟨_, rfl⟩
      rw [hlk2] at HB1 HD hd1 hlk ⊢
      have hd1i : (0 : Int) < (lk : Int) := by omega
      have HLK := Lib.hid hlk2
      clear hb h0 hlk2
      go_wp2_with fail
      refine HD.out.mono ?_
      rintro e w2 ⟨q, r, rfl, hq, hr, X2⟩
      go_wp2_with fail
      go_roundg (a % gk)
      case rel => exact ⟨gk, HB1.out.ext X2, hr, by rw [HLK.out]; exact hlk, hlr.out, hnext.out, X.trans X2⟩
      case measure => exact hlt.out

theorem gcdAt_any (n m : Nat) (hl : (dig n).length ≤ 1073741823) (hl2 : (dig m).length ≤ 1073741823) : GcdAt n m :=
  fun v u W hv hu => gcd_any v u n m W hv hu hl hl2
end Go.Proofs.YtecfphohmgbddaaGreatDoor
