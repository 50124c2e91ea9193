/- texts merged: RatN RatO -/
import Derived.Test.YtkfheeffbombhaaGreatDoorRtE
import Derived.Test.YtkfheeffbombhaaGreatDoorRtD
import Derived.Test.YtkfheeffbombhaaGreatDoorNatZ
import Derived.Test.YtkfheeffbombhaaGreatDoorRtB
/- walks of package rat: CheckAll, two, one -/
namespace Go.Proofs.YtkfheeffbombhaaGreatDoor
open Go.RowKit
set_option linter.unusedVariables false


set_option maxHeartbeats 1600000 in
set_option maxRecDepth 100000 in
theorem checkAll_any (v : Value) (l : List ByteArray) (w : World) (hv : Strs w v l) (hs : ∀ s ∈ l, s.size ≤ 9223372036854775806) (Q : Int) (hQ : firstF (l.map ratErr) = Q) :
    Calls Tryz.prog 166 #[v] w fun e w' => e = .returned (.int .i64 Q) ∧ Ext w w' := by
  obtain ⟨wo, rfl⟩ : ∃ wo : World, wo = w := ⟨_, rfl⟩
  obtain ⟨ao, c, rfl, hlen, hc⟩ := hv.open
  have HC := Lib.hid hc
  have HS := Lib.hid hs
  have HQ := Lib.hid hQ
  clear hc hs hv hQ
  go_enter Tryz.func166, Tryz.ntmps166
  go_wp2_with fail
  go_loopw [8] (fun iv wr => ∃ (i : Nat), i ≤ l.length ∧ iv = .int .i64 i ∧ Ext wo wr ∧ Hid (firstF ((l.drop i).map ratErr) = Q)) (fun iv _ => l.length - (intOf iv).toNat)
  case atStart => exact ⟨0, Nat.zero_le _, rfl, Ext.refl _, by show _ = _; rw [List.drop_zero]; exact HQ.out⟩
  case round =>
    obtain ⟨i, hi, rfl, X, HI⟩ := hrel
    by_cases hlt : i < l.length
    · obtain ⟨s, d1, d2, d3⟩ := get_lt hlt
      obtain ⟨b, off, rfl, hc0⟩ := (HC.out.ext X).at d1
      have hcell : wr.cell? ⟨b, off + i, none⟩ = some (.string s) := hc0
      have hki : (i : Int) < (l.length : Int) := by omega
      have hi2 := HI.out
      rw [d2.out, List.map_cons, firstF] at hi2
      have HR := Lib.hid (ratCheck_any s wr (HS.out s (List.mem_of_getElem? d1.out)))
      obtain ⟨q, hq⟩ : ∃ q, ratErr s = q := ⟨_, rfl⟩
      rw [hq] at HR hi2
      by_cases hz : q = 0
      · subst hz
        rw [if_neg (by simp)] at hi2
        have HI2 := Lib.hid hi2
        clear hc0 hi2 hq hlt
        go_wp2_with fail
        refine HR.out.mono ?_
        rintro e w2 ⟨rfl, X2⟩
        go_wp2_with fail
        go_roundw
        case rel => exact ⟨i + 1, by omega, by go_num, X.trans X2, HI2.out⟩
        case measure => simp [intOf]; omega
      · rw [if_pos hz] at hi2
        have hb : (q != 0) = true := by simp [hz]
        have HI2 := Lib.hid hi2
        clear hc0 hi2 hq hlt hz
        go_wp2_with fail
        refine HR.out.mono ?_
        rintro e w2 ⟨rfl, X2⟩
        go_wp2_with fail
        go_ret
        exact ⟨by rw [← HI2.out]; rfl, X.trans X2⟩
    · have hil : l.length = i := by omega
      have hi2 := HI.out
      rw [← hil, List.drop_length] at hi2
      have HI2 := Lib.hid hi2
      clear hi2 hlt
      go_wp2_with fail
      go_ret
      exact ⟨by rw [← HI2.out]; rfl, X⟩

end Go.Proofs.YtkfheeffbombhaaGreatDoor
/- walks of package rat: Add, Sub, Mul, Div, Neg, Compare, Sign, Floor, Of -/
namespace Go.Proofs.YtkfheeffbombhaaGreatDoor
open Go.RowKit
set_option linter.unusedVariables false

def cmpQ (a b : Rat) : Int := (a.num * b.den - b.num * a.den).sign

end Go.Proofs.YtkfheeffbombhaaGreatDoor
