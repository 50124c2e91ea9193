/- walks of package big: norm, Small -/
import Derived.Test.YtecfphohmgbddaaGreatDoorBigK
import Derived.Test.YtecfphohmgbddaaGreatDoorMk
import Derived.Test.YtecfphohmgbddaaGreatDoorChecked
namespace Go.Proofs.YtecfphohmgbddaaGreatDoor
open Go.RowKit
set_option linter.unusedVariables false

/-- a digit as a value -/
def encD (d : Nat) : Value := .int .u32 (d : Int)
/-- a slice value that reads as digits -/
abbrev Digs (w : World) (v : Value) (ds : List Nat) : Prop := RowOf encD w v ds
/-- a slice value that reads as the digits of a number -/
abbrev NatV (w : World) (v : Value) (n : Nat) : Prop := RowOf encD w v (dig n)

theorem info_u32 : (Tryz.prog.info? 121).map (fun i => (i.zero, i.size, i.bytes)) = some (some (.int .u32 0), 1, 4) := by kernel_rfl
theorem ei_nat : EI Tryz.prog 68 121 (.int .u32 0) 1 4 := ⟨Tryz.underlying68, info_parts info_u32, rfl, by decide⟩

theorem take_last {ds : List Nat} {j d : Nat} (h : ds[j]? = some d) : ds.take (j + 1) = ds.take j ++ [d] := by
  obtain ⟨h1, h2⟩ := List.getElem?_eq_some_iff.1 h
  rw [List.take_succ_eq_append_getElem h1, h2]

set_option maxHeartbeats 800000 in
set_option maxRecDepth 100000 in
theorem norm_any (ao : Option Addr) (c : Nat) (ds : List Nat) (w : World) (hc : CellsOf encD w ao ds) (hlc : ds.length ≤ c) (hl : ds.length ≤ 17592186044416) (hcm : c ≤ 9223372036854775807) (hd : Dg ds) :
    Calls Tryz.prog 110 #[.slice ao ds.length c] w fun e w' => e = .returned (.slice ao (dig (val ds)).length c) ∧ w' = w := by
  obtain ⟨F, hF⟩ : ∃ F, dig (val ds) = F := ⟨_, rfl⟩
  rw [hF]
  have HF := Lib.hid hF
  have HC := Lib.hid hc
  have HD := Lib.hid hd
  clear hF hc hd
  go_enter Tryz.func110, Tryz.ntmps110
  go_wp2_with fail
  go_loop [0] (fun v => ∃ k : Nat, k ≤ ds.length ∧ v = .slice ao k c ∧ Hid (dig (val (ds.take k)) = F)) (fun v => match v with | .slice _ k _ => k | _ => 0)
  case atStart => exact ⟨ds.length, Nat.le_refl _, rfl, by show _ = _; rw [List.take_length]; exact HF.out⟩
  case round =>
    obtain ⟨k, hk, rfl, HI⟩ := hrel
    by_cases h0 : k = 0
    · subst h0
      have hf : F = [] := by rw [← HI.out, List.take_zero]; exact dig_zero
      subst hf
      go_wp2_with fail
      go_ret
      exact ⟨rfl, rfl⟩
    · obtain ⟨j, rfl⟩ : ∃ j, k = j + 1 := ⟨k - 1, by omega⟩
      obtain ⟨d, d1, d2, d3⟩ := get_lt (show j < ds.length by omega)
      obtain ⟨b, off, rfl, hcell⟩ := HC.out.at d1
      have hdl := HD.out.at d1.out
      have hi := HI.out
      rw [take_last d1.out] at hi
      by_cases hz : d = 0
      · subst hz
        rw [val_snoc_zero] at hi
        have HI2 := Lib.hid hi
        have hcell0 : w.cell? ⟨b, off + j, none⟩ = some (.int .u32 0) := hcell
        clear hi hcell h0
        go_wp2_with fail
        go_round
        case rel => exact ⟨j, by omega, by simp, HI2⟩
        case measure => simp
      · rw [dig_val_snoc (HD.out.take j) hdl hz] at hi
        have hlen : F.length = j + 1 := by rw [← hi, List.length_append, List.length_take]; simp; omega
        have hzb : ((d : Int) == 0) = false := by rw [beq_eq_false_iff_ne]; omega
        have hcell0 : w.cell? ⟨b, off + j, none⟩ = some (.int .u32 d) := hcell
        have HL := Lib.hid hlen
        clear hi hlen hcell h0 hz
        go_wp2_with fail
        go_ret
        exact ⟨by rw [HL.out]; rfl, rfl⟩
end Go.Proofs.YtecfphohmgbddaaGreatDoor
