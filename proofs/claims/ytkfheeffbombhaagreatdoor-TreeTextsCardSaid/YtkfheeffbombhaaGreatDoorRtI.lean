/- texts merged: RatX RatY -/
import Derived.Test.YtkfheeffbombhaaGreatDoorRtH
/- package rat at fixed texts -/
namespace Go.Proofs.YtkfheeffbombhaaGreatDoor
open Go.RowKit
set_option linter.unusedVariables false

end Go.Proofs.YtkfheeffbombhaaGreatDoor
/- walk of ratFact -/
namespace Go.Proofs.YtkfheeffbombhaaGreatDoor
open Go.RowKit
set_option linter.unusedVariables false

set_option maxHeartbeats 400000 in
set_option maxRecDepth 100000 in
theorem equal_rats (u v : Value) (xs : List ByteArray) (w : World) (hu : Strs w u xs) (hv : Strs w v xs) :
    Calls Tryz.prog 20 #[u, v] w fun e w' => e = .returned (.bool true) ∧ Ext w w' := by
  obtain ⟨ao, c, rfl, hlen, hc⟩ := hu.open
  obtain ⟨bo, d, rfl, hlen2, hd⟩ := hv.open
  clear hu hv
  have HC := Lib.hid hc
  have HD := Lib.hid hd
  clear hc hd
  go_enter Tryz.func20, Tryz.ntmps20
  go_wp2_with fail
  go_loopw [13] (fun i wr => ∃ k : Nat, k ≤ xs.length ∧ i = .int .i64 k ∧ Ext w wr) (fun i _ => xs.length - (intOf i).toNat)
  case atStart => exact ⟨0, Nat.zero_le _, rfl, Ext.refl _⟩
  case round =>
    obtain ⟨k, hk, rfl, HX⟩ := hrel
    by_cases hlt : k < xs.length
    · obtain ⟨x, h1, h2, h3⟩ := get_lt hlt
      obtain ⟨b, off, rfl, _⟩ := HC.out.at h1
      have hcell := (HC.out.ext HX).at' h1
      obtain ⟨b2, off2, rfl, _⟩ := HD.out.at h1
      have hcell2 := (HD.out.ext HX).at' h1
      have hki : (k : Int) < (xs.length : Int) := by omega
      have hx1 : (x.toList != x.toList) = false := by simp
      have hx2 : (x.toList == x.toList) = true := by simp
      clear hlt
      go_wp2_with fail
      go_quiet (fail)
      go_wp2_with fail
      go_roundw
      case rel => exact ⟨k + 1, by omega, by go_num, HX.drewN _⟩
      case measure => simp [intOf]; omega
    · have hki : (xs.length : Int) ≤ (k : Int) := by omega
      clear hlt
      go_wp2_with fail
      go_ret
      exact ⟨rfl, HX⟩


end Go.Proofs.YtkfheeffbombhaaGreatDoor
