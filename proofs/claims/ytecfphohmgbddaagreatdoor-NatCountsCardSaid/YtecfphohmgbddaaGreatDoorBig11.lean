/- walks of package big: Div by a number of one digit; Gcd with such a number -/
import Derived.Test.YtecfphohmgbddaaGreatDoorBig10
import Derived.Deep.LoopGhost
namespace Go.Proofs.YtecfphohmgbddaaGreatDoor
open Go.RowKit
set_option linter.unusedVariables false

set_option maxHeartbeats 400000 in
set_option maxRecDepth 100000 in
theorem clone_digs (v : Value) (xs : List Nat) (w : World) (hv : Digs w v xs) :
    Calls Tryz.prog 114 #[v] w fun e w' => ∃ u, e = .returned u ∧ Digs w' u xs ∧ Ext w w' := by
  have hsrc := Lib.hid (hv.src (fun _ => rfl))
  have hv0 := hv
  obtain ⟨ao, c, rfl, hn, hlen, hne, hc⟩ := hv
  simp only [List.length_map] at hsrc hlen ⊢
  have q22 := fun (w : World) (a : Option Addr) (n c n' c' : Nat) => Lib.run_eql_slice_nil (P := Tryz.prog) w 68 121 a n c n' c' Tryz.underlying68
  cases ao with
  | none =>
    have hxs : xs = [] := by
      cases xs with
      | nil => rfl
      | cons x xs => exact absurd rfl (hne (by simp))
    subst hxs
    clear hsrc hc hne hn hlen hv0
    go_enter Tryz.func114, Tryz.ntmps114
    go_wp2_with fail
    go_ret
    exact ⟨_, rfl, Row.nil w, Ext.refl _⟩
  | some ad =>
    clear hc hne hn hv0
    go_enter Tryz.func114, Tryz.ntmps114
    have hs2 := hsrc.out.ext ((Ext.refl w).alloc (.cells #[] 121))
    have hs3 := Lib.hid hs2; clear hs2
    go_wp2_with (at_builtin; refine wp_app rfl rfl ei_nat rfl (own_empty w _) rfl hs3.out (by omega) (by omega) (by simp) ?_; intro v' w' hown hgrew)
    go_ret
    exact ⟨_, rfl, own_rowOf (enc := encD) (n := xs.length) (by simpa using hown) hlen, hgrew.extNew ((Ext.refl w).alloc _) (own_empty w _) (Nat.le_refl _)⟩

theorem dig_one {m : Nat} (h0 : 0 < m) (h : m < 4294967296) : dig m = [m] := by
  rw [dig_pos (by omega), show m / 4294967296 = 0 by omega, dig_zero, show m % 4294967296 = m by omega]

def DivPost (n m : Nat) (w : World) (e : Ending) (w' : World) : Prop :=
  ∃ a b, e = .returned (.tuple #[a, b]) ∧ NatV w' a (n / m) ∧ NatV w' b (n % m) ∧ Ext w w'

set_option maxHeartbeats 1600000 in
set_option maxRecDepth 100000 in
theorem div_lt (v u : Value) (n m : Nat) (w : World) (hv : NatV w v n) (hu : NatV w u m) (h : n < m) :
    Calls Tryz.prog 74 #[v, u] w (DivPost n m w) := by
  have hz : cmpZ n m = -1 := if_pos h
  have HC := cmp_any v u n m w hv hu
  rw [hz] at HC
  have HC := Lib.hid HC
  have HCL := Lib.hid (fun W (hx : Ext w W) => clone_digs v (dig n) W (hv.ext hx))
  have hq : Hid (n / m = 0) := Nat.div_eq_of_lt h
  have hr : Hid (n % m = n) := Nat.mod_eq_of_lt h
  clear hz hv hu h
  go_enter Tryz.func74, Tryz.ntmps74
  go_wp2_with fail
  refine HC.out.mono ?_
  rintro e w1 ⟨rfl, X1⟩
  go_wp2_with fail
  refine (HCL.out _ X1).mono ?_
  rintro e w2 ⟨b, rfl, hb, X2⟩
  go_wp2_with fail
  go_ret2
  exact ⟨_, _, rfl, by rw [hq.out]; exact natV_nil _, by rw [hr.out]; exact hb, X1.trans X2⟩

set_option maxHeartbeats 1600000 in
set_option maxRecDepth 100000 in
theorem div_one (v u : Value) (n m : Nat) (w : World) (hv : NatV w v n) (hu : NatV w u m) (h : m ≤ n) (hm0 : 0 < m) (hm : m < 4294967296) (hl : (dig n).length ≤ 1073741824) :
    Calls Tryz.prog 74 #[v, u] w (DivPost n m w) := by
  have hz : 0 ≤ cmpZ n m := by
    unfold cmpZ
    rw [if_neg (by omega)]
    split <;> omega
  have HC := Lib.hid (cmp_any v u n m w hv hu)
  obtain ⟨z, hzz⟩ : ∃ z, cmpZ n m = z := ⟨_, rfl⟩
  rw [hzz] at HC hz
  have hv9 := fun W (hx : Ext w W) => divSmall_any v (dig n) m W (hv.ext hx) (dig_dg n) hm hm0 hl
  obtain ⟨d1, d2⟩ := divL_div (x := m) (n := n) hm0
  rw [d1, d2] at hv9
  obtain ⟨q, hq⟩ : ∃ q, n / m = q := ⟨_, rfl⟩
  obtain ⟨r, hr⟩ : ∃ r, n % m = r := ⟨_, rfl⟩
  rw [hq, hr] at hv9
  have hr9 : r < 4294967296 := by
    have := Nat.mod_lt n hm0
    omega
  have hri : (r : Int) ≤ 4294967295 := by omega
  have HD := Lib.hid hv9
  have HQ := Lib.hid hq
  have HR := Lib.hid hr
  obtain ⟨ao, c, rfl, _, hc⟩ := hu.open
  rw [dig_one hm0 hm] at hc HC
  obtain ⟨b, off, rfl, hcell0⟩ := hc 0 (encD m) rfl
  have hcell : Hid (∀ W, Ext w W → W.cell? ⟨b, off, none⟩ = some (.int .u32 m)) := by
    show ∀ W, _ → _
    intro W hx
    have := hx.cell hcell0
    rw [Nat.add_zero] at this
    exact this
  simp only [dig_one hm0 hm, List.length_cons, List.length_nil, Nat.zero_add] at *
  clear d1 d2 hq hr hv hu hc hcell0 hzz
  go_enter Tryz.func74, Tryz.ntmps74
  go_wp2_with fail
  refine HC.out.mono ?_
  rintro e w1 ⟨rfl, X1⟩
  have c1 := hcell.out _ X1
  go_wp2_with fail
  refine (HD.out _ X1).mono ?_
  rintro e w2 ⟨a, rfl, ha, _, X2⟩
  go_wp2_with fail
  refine (small_any r _ (by omega)).mono ?_
  rintro e w3 ⟨b3, rfl, hb3, X3⟩
  go_wp2_with fail
  go_ret2
  exact ⟨_, _, rfl, by rw [HQ.out]; exact ha.ext X3, by rw [HR.out]; exact hb3, (X1.trans X2).trans X3⟩

theorem div_small (v u : Value) (n m : Nat) (w : World) (hv : NatV w v n) (hu : NatV w u m) (hm0 : 0 < m) (hm : m < 4294967296) (hl : (dig n).length ≤ 1073741824) :
    Calls Tryz.prog 74 #[v, u] w (DivPost n m w) := by
  by_cases h : n < m
  · exact div_lt v u n m w hv hu h
  · exact div_one v u n m w hv hu (by omega) hm0 hm hl

set_option maxHeartbeats 1600000 in
set_option maxRecDepth 100000 in
theorem gcd_small (v u : Value) (n m : Nat) (w : World) (hv : NatV w v n) (hu : NatV w u m) (hm : m < 4294967296) (hl : (dig n).length ≤ 1073741824) :
    Calls Tryz.prog 76 #[v, u] w fun e w' => ∃ r, e = .returned r ∧ NatV w' r (Nat.gcd n m) ∧ Ext w w' := by
  obtain ⟨wo, rfl⟩ : ∃ wo : World, wo = w := ⟨_, rfl⟩
  obtain ⟨F, hF⟩ : ∃ F, Nat.gcd n m = F := ⟨_, rfl⟩
  rw [hF]
  have HF := Lib.hid hF
  have HV := Lib.hid hv
  have HU := Lib.hid hu
  clear hF hv hu
  go_enter Tryz.func76, Tryz.ntmps76
  go_wp2_with fail
  go_loopg [0, 1] m (fun k nv mv wr => ∃ (a : Nat), NatV wr nv a ∧ NatV wr mv k ∧ k < 4294967296 ∧ (dig a).length ≤ 1073741824 ∧ Nat.gcd a k = F ∧ Ext wo wr)
  case atStart => exact ⟨n, HV.out, HU.out, hm, hl, HF.out, Ext.refl _⟩
  case round =>
    obtain ⟨a, ha, hb, hk9, hla, hg, X⟩ := hrel
    have HG := Lib.hid hg
    clear hg
    by_cases h0 : gk = 0
    · subst h0
      have hfa : Hid (F = a) := by show _ = _; rw [← HG.out, Nat.gcd_zero_right]
      obtain ⟨bo, bc, rfl, _, _⟩ := hb.open
      have hz : (dig 0).length = 0 := by rw [dig_zero]; rfl
      rw [hz]
      clear hz hb
      go_wp2_with fail
      go_ret
      exact ⟨_, rfl, by rw [hfa.out]; exact ha, X⟩
    · have HD := Lib.hid (div_small _ _ a gk wr ha hb (by omega) hk9 hla)
      obtain ⟨bo, bc, rfl, _, _⟩ := hb.open
      have hd1 : (dig gk).length = 1 := by rw [dig_one (by omega) hk9]; rfl
      rw [hd1] at HD ⊢
      have hnext : Hid (Nat.gcd gk (a % gk) = F) := by show _ = _; rw [← HG.out, Nat.gcd_comm a gk, Nat.gcd_rec gk a, Nat.gcd_comm]
      have hlt : Hid (a % gk < gk) := Nat.mod_lt _ (by omega)
      have hb1 : NatV wr (.slice bo 1 bc) gk := by rw [← hd1]; exact hb
      have hdg : Hid ((dig gk).length ≤ 1073741824) := by show _ ≤ _; omega
      have HB1 := Lib.hid hb1
      clear hb hd1 h0 hb1
      go_wp2_with fail
      refine HD.out.mono ?_
      rintro e w2 ⟨q, r, rfl, hq, hr, X2⟩
      go_wp2_with fail
      go_roundg (a % gk)
      case rel => exact ⟨gk, HB1.out.ext X2, hr, by have := hlt.out; omega, hdg.out, hnext.out, X.trans X2⟩
      case measure => exact hlt.out
end Go.Proofs.YtecfphohmgbddaaGreatDoor
