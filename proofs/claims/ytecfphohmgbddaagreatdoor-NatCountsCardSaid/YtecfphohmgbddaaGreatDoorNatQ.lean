/- walks of the reference: strip, digit, text -/
import Derived.Test.YtecfphohmgbddaaGreatDoorNatP
import Derived.Laws.IdiomStrings
namespace Go.Proofs.YtecfphohmgbddaaGreatDoor
open Go.RowKit
set_option linter.unusedVariables false

theorem bytes_of_list {r : ByteArray} {F : List UInt8} (h : r.data.toList = F) : r = ⟨F.toArray⟩ := by
  subst h
  cases r
  simp

theorem stripL_go {r : ByteArray} (h1 : 1 < r.size) (h : r[0] = 48) : stripL r.data.toList = stripL (r.data.toList.drop 1) := by
  have e : r.data.toList = r[0] :: r.data.toList.drop 1 := by
    have := bdrop (s := r) (k := 0) (by omega)
    rwa [List.drop_zero] at this
  have hl : (r.data.toList.drop 1).length = r.size - 1 := by rw [List.length_drop, bsz]
  rw [e, List.drop_succ_cons, List.drop_zero, stripL, if_pos ⟨h, fun e2 => by rw [e2] at hl; simp at hl; omega⟩]
theorem stripL_stop {r : ByteArray} (h : r.size ≤ 1 ∨ ∃ h : 0 < r.size, r[0] ≠ 48) : stripL r.data.toList = r.data.toList := by
  by_cases h0 : r.size = 0
  · rw [List.eq_nil_of_length_eq_zero (show r.data.toList.length = 0 by rw [bsz]; exact h0)]; rfl
  · have e : r.data.toList = r[0] :: r.data.toList.drop 1 := by
      have := bdrop (s := r) (k := 0) (by omega)
      rwa [List.drop_zero] at this
    have hl : (r.data.toList.drop 1).length = r.size - 1 := by rw [List.length_drop, bsz]
    rw [e, stripL, if_neg]
    rintro ⟨a, b⟩
    rcases h with h | ⟨_, h⟩
    · exact b (List.eq_nil_of_length_eq_zero (by rw [hl]; omega))
    · exact h a

set_option maxHeartbeats 800000 in
set_option maxRecDepth 100000 in
theorem strip_any (s : ByteArray) (w : World) (hs : s.size ≤ 9223372036854775807) (F : List UInt8) (hF : Hid (stripL s.data.toList = F)) :
    Calls Tryz.prog 77 #[.string s] w fun e w' => e = .returned (.string ⟨F.toArray⟩) ∧ Ext w w' := by
  go_enter Tryz.func77, Tryz.ntmps77
  go_wp2_with fail
  go_loop [0] (fun sv => ∃ (r : ByteArray), sv = .string r ∧ r.size ≤ 9223372036854775807 ∧ Hid (stripL r.data.toList = F)) (fun sv => strZ sv)
  case atStart => exact ⟨s, rfl, hs, hF⟩
  case round =>
    obtain ⟨r, rfl, hrs, HI⟩ := hrel
    by_cases h1 : r.size ≤ 1
    · have hr : r = ⟨F.toArray⟩ := bytes_of_list (by rw [← HI.out, stripL_stop (.inl h1)])
      have HR := Lib.hid hr
      have h1i : (r.size : Int) ≤ 1 := by omega
      clear hr
      go_wp2_with fail
      go_ret
      exact ⟨congrArg (fun z => Ending.returned (.string z)) HR.out, Ext.refl _⟩
    · have h1i : (1 : Int) < (r.size : Int) := by omega
      have hlt : 0 < r.size := by omega
      by_cases hz : r[0] = 48
      · have hb : ((r[0].toNat : Int) == 48) = true := by rw [hz]; rfl
        obtain ⟨R, hR⟩ : ∃ R, r.extract 1 r.size = R := ⟨_, rfl⟩
        have hRl : R.data.toList = r.data.toList.drop 1 := by rw [← hR, ext_drop]
        have hRs : R.size = r.size - 1 := by rw [← bsz R, hRl, List.length_drop, bsz]
        have hnx : Hid (stripL R.data.toList = F) := by show _ = _; rw [hRl, ← stripL_go (by omega) hz]; exact HI.out
        have HRS := Lib.hid hRs
        clear hz hRl hRs h1
        go_wp2_with fail
        go_round
        case rel => exact ⟨R, rfl, by have := HRS.out; omega, hnx.out⟩
        case measure => have := HRS.out; simp [strZ]; omega
      · have hb : ((r[0].toNat : Int) == 48) = false := by
          rw [beq_eq_false_iff_ne]
          intro e
          apply hz
          apply UInt8.toNat_inj.1
          have : (48 : UInt8).toNat = 48 := rfl
          omega
        have hr : r = ⟨F.toArray⟩ := bytes_of_list (by rw [← HI.out, stripL_stop (.inr ⟨hlt, hz⟩)])
        have HR := Lib.hid hr
        clear hz hr
        go_wp2_with fail
        go_ret
        exact ⟨congrArg (fun z => Ending.returned (.string z)) HR.out, Ext.refl _⟩

set_option maxHeartbeats 800000 in
set_option maxRecDepth 100000 in
theorem digit_any (s : ByteArray) (k : Nat) (w : World) (hs : s.size ≤ 9223372036854775807) (hk : k ≤ 9223372036854775807) (ha : AllD s.data.toList) (q : Nat) (hq : Hid ((rd s.data.toList).getD k 0 = q)) :
    Calls Tryz.prog 69 #[.string s, .int .i64 k] w fun e w' => e = .returned (.int .i64 q) ∧ w = w' := by
  by_cases h : k < s.size
  · have hki : (k : Int) < (s.size : Int) := by omega
    obtain ⟨n, hn⟩ : ∃ n, s.size - 1 - k = n := ⟨_, rfl⟩
    have hnl : n < s.size := by omega
    have hni : (s.size : Int) - 1 - (k : Int) = (n : Int) := by omega
    have hg := rd_get (l := s.data.toList) (k := k) (by rw [bsz]; exact h)
    rw [hq.out] at hg
    simp only [bsz, hn] at hg
    have hg2 : q = s[n].toNat - 48 := hg
    obtain ⟨c, hc⟩ : ∃ c : Nat, s[n].toNat = c := ⟨_, rfl⟩
    have hc48 : 48 ≤ c ∧ c ≤ 57 := by
      rw [← hc]
      exact ha _ (by rw [← Array.mem_def]; exact Array.getElem_mem (by exact hnl))
    rw [hc] at hg2
    have hci : (48 : Int) ≤ (c : Int) := by omega
    have hci2 : (c : Int) ≤ 57 := by omega
    have hqi : (c : Int) - 48 = (q : Int) := by omega
    have hq9 : (q : Int) ≤ 9 := by omega
    clear hq hn hg hg2 ha hc48
    go_enter Tryz.func69, Tryz.ntmps69
    go_wp2_with fail
    go_ret
    exact ⟨by first | rfl | simp [hc, hqi], rfl⟩
  · have hki : (s.size : Int) ≤ (k : Int) := by omega
    have hq0 : q = 0 := by rw [← hq.out]; exact rd_none (by rw [bsz]; omega)
    subst hq0
    clear hq h
    go_enter Tryz.func69, Tryz.ntmps69
    go_wp2_with fail
    go_ret
    exact ⟨rfl, rfl⟩
end Go.Proofs.YtecfphohmgbddaaGreatDoor
