/- walk: weight -/
import Derived.Test.YtnfmknjhkpgppaaGreatDoorSlB
namespace Go.Proofs.YtnfmknjhkpgppaaGreatDoor
open Go.RowKit
set_option linter.unusedVariables false

set_option maxHeartbeats 1600000 in
set_option maxRecDepth 100000 in
theorem weight_any (v : Value) (ls : List (List ByteArray)) (w : World) (hv : Rows Value.string w v ls) :
    Calls Tryz.prog 5 #[v] w fun e w' => ∃ n, e = .returned (.int .i64 n) ∧ Ext w w' := by
  obtain ⟨wo, rfl⟩ : ∃ wo : World, wo = w := ⟨_, rfl⟩
  obtain ⟨us, hr, hul, hel⟩ := hv
  obtain ⟨ao, c, rfl, _, hlen, _, hc⟩ := hr
  have HC := Lib.hid hc
  have HEL := Lib.hid hel
  have HUL := Lib.hid hul
  clear hc hel hul
  go_enter Tryz.func5, Tryz.ntmps5
  go_wp2_with fail
  go_loopw [3, 10] (fun nv iv wr => ∃ (i : Nat) (n : Int), i ≤ us.length ∧ nv = .int .i64 n ∧ iv = .int .i64 i ∧ Ext wo wr) (fun _ iv _ => us.length - (intOf iv).toNat)
  case atStart => exact ⟨0, 0, Nat.zero_le _, rfl, rfl, Ext.refl _⟩
  case round =>
    obtain ⟨i, n, hi, rfl, rfl, X⟩ := hrel
    obtain ⟨wi, rfl⟩ : ∃ wi : World, wi = wr := ⟨_, rfl⟩
    by_cases hlt : i < us.length
    · obtain ⟨u, d1, d2, d3⟩ := get_lt hlt
      obtain ⟨l, q1, q2, q3⟩ := get_lt (xs := ls) (k := i) (by rw [← HUL.out]; exact hlt)
      obtain ⟨b, off, rfl, hc0⟩ := HC.out.ext X i u d1.out
      have hcell : wi.cell? ⟨b, off + i, none⟩ = some u := hc0
      obtain ⟨ao2, c2, rfl, hlen2, hc2⟩ := (HEL.out i u l d1.out q1.out).open
      have HC2 := Lib.hid (hc2.ext X)
      have hki : (i : Int) < (us.length : Int) := by omega
      clear hc0 hlt hc2
      go_wp2_with fail
      go_loopw [3, 16] (fun nv jv wr => ∃ (j : Nat) (n : Int), j ≤ l.length ∧ nv = .int .i64 n ∧ jv = .int .i64 j ∧ Ext wi wr) (fun _ jv _ => l.length - (intOf jv).toNat)
      case atStart => exact ⟨0, n, Nat.zero_le _, rfl, rfl, Ext.refl _⟩
      case round =>
        obtain ⟨j, m, hj, rfl, rfl, Y⟩ := hrel
        by_cases hlt2 : j < l.length
        · obtain ⟨s, e1, e2, e3⟩ := get_lt hlt2
          obtain ⟨b2, off2, rfl, hc3⟩ := (HC2.out.ext Y).at e1
          have hcell2 : wr.cell? ⟨b2, off2 + j, none⟩ = some (.string s) := hc3
          have hkj : (j : Int) < (l.length : Int) := by omega
          clear hc3 hlt2
          go_wp2_with fail
          go_roundw
          case rel => exact ⟨j + 1, _, by omega, rfl, by go_num, Y⟩
          case measure => simp [intOf]; omega
        · have hjl : l.length = j := by omega
          clear hlt2
          go_wp2_with fail
          go_roundw
          case rel => exact ⟨i + 1, _, by omega, rfl, by go_num, X.trans Y⟩
          case measure => simp [intOf]; omega
    · have hil : us.length = i := by omega
      clear hlt
      go_wp2_with fail
      go_ret
      exact ⟨_, rfl, X⟩
end Go.Proofs.YtnfmknjhkpgppaaGreatDoor
