/- walks: NatCmp of the reference; first, natural; the law NatSums -/
import Derived.Test.YtecfphohmgbddaaGreatDoorNatS
namespace Go.Proofs.YtecfphohmgbddaaGreatDoor
open Go.RowKit
set_option linter.unusedVariables false

set_option maxHeartbeats 800000 in
set_option maxRecDepth 100000 in
theorem rNatCmp_any (a b : ByteArray) (w : World) (ca : Canon a.data.toList) (cb : Canon b.data.toList) (hla : a.size ≤ 1000000) (hlb : b.size ≤ 1000000) :
    Calls Tryz.prog 21 #[.string a, .string b] w fun e w' => e = .returned (.int .i64 (cmpZ (numB a) (numB b))) ∧ w = w' := by
  obtain ⟨q, hq⟩ : ∃ q, cmpZ (numB a) (numB b) = q := ⟨_, rfl⟩
  rw [hq]
  have hq2 := hq
  unfold cmpZ at hq2
  clear hq
  by_cases h1 : a.size < b.size
  · have := canon_lt ca cb (by rw [bsz, bsz]; exact h1)
    rw [if_pos (by unfold numB; exact this)] at hq2
    subst hq2
    have h1i : (a.size : Int) < (b.size : Int) := by omega
    clear this ca cb h1
    go_enter Tryz.func21, Tryz.ntmps21
    go_wp2_with fail
    go_ret
    exact ⟨rfl, rfl⟩
  · have h1i : (b.size : Int) ≤ (a.size : Int) := by omega
    by_cases h2 : b.size < a.size
    · have := canon_lt cb ca (by rw [bsz, bsz]; exact h2)
      rw [if_neg (by unfold numB; omega), if_pos (by unfold numB; exact this)] at hq2
      subst hq2
      have h2i : (b.size : Int) < (a.size : Int) := by omega
      clear this ca cb h1 h2 h1i
      go_enter Tryz.func21, Tryz.ntmps21
      go_wp2_with fail
      go_ret
      exact ⟨rfl, rfl⟩
    · have h2i : (a.size : Int) ≤ (b.size : Int) := by omega
      have hless := bytes_less ca.1 cb.1 (by rw [bsz, bsz]; omega)
      rw [← Lib.toList_data a, ← Lib.toList_data b] at hless
      by_cases h3 : numB a < numB b
      · rw [if_pos h3] at hq2
        subst hq2
        have hb : Op.bytesLess a.toList b.toList = true := by rw [hless]; simp only [Lib.toList_data]; exact decide_eq_true h3
        clear hless ca cb h1 h2 h3
        go_enter Tryz.func21, Tryz.ntmps21
        go_wp2_with fail
        go_ret
        exact ⟨rfl, rfl⟩
      · rw [if_neg h3] at hq2
        have hb : Op.bytesLess a.toList b.toList = false := by rw [hless]; simp only [Lib.toList_data]; exact decide_eq_false h3
        by_cases h4 : numB b < numB a
        · rw [if_pos h4] at hq2
          subst hq2
          have he : (a.toList == b.toList) = false := by
            rw [beq_eq_false_iff_ne]
            intro e
            rw [Lib.toList_data, Lib.toList_data] at e
            unfold numB at h4
            rw [e] at h4
            omega
          clear hless ca cb h1 h2 h3 h4
          go_enter Tryz.func21, Tryz.ntmps21
          go_wp2_with fail
          go_ret
          exact ⟨rfl, rfl⟩
        · rw [if_neg h4] at hq2
          subst hq2
          have he : (a.toList == b.toList) = true := by
            rw [beq_iff_eq, Lib.toList_data, Lib.toList_data]
            exact canon_eq ca cb (by unfold numB at h3 h4; omega)
          clear hless ca cb h1 h2 h3 h4
          go_enter Tryz.func21, Tryz.ntmps21
          go_wp2_with fail
          go_ret
          exact ⟨rfl, rfl⟩

def firstF : List Int → Int
  | [] => 0
  | x :: t => if x ≠ 0 then x else firstF t

set_option maxHeartbeats 800000 in
set_option maxRecDepth 100000 in
theorem first_any (v : Value) (es : List Int) (w : World) (hv : Ints w v es) (q : Int) (hq : Hid (firstF es = q)) :
    Calls Tryz.prog 18 #[v] w fun e w' => e = .returned (.int .i64 q) ∧ w = w' := by
  obtain ⟨ao, c, rfl, hlen, hc⟩ := hv.open
  have HC := Lib.hid hc
  clear hv hc
  go_enter Tryz.func18, Tryz.ntmps18
  go_wp2_with fail
  go_loop [4, 7] (fun _ i => ∃ (k : Nat), k ≤ es.length ∧ i = .int .i64 k ∧ Hid (firstF (es.drop k) = q)) (fun _ i => es.length - (intOf i).toNat)
  case atStart => exact ⟨0, Nat.zero_le _, rfl, hq⟩
  case round =>
    obtain ⟨k, hk, rfl, HI⟩ := hrel
    by_cases hlt : k < es.length
    · obtain ⟨x, h1, h2, h3⟩ := get_lt hlt
      obtain ⟨b, off, rfl, hcell⟩ := HC.out.at h1
      have hki : (k : Int) < (es.length : Int) := by omega
      have hi := HI.out
      rw [h2.out, firstF] at hi
      by_cases hx : x = 0
      · subst hx
        rw [if_neg (by simp)] at hi
        have HI2 := Lib.hid hi
        clear hi
        go_wp2_with fail
        go_round
        case rel => exact ⟨k + 1, by omega, by go_num, HI2⟩
        case measure => simp [intOf]; omega
      · rw [if_pos hx] at hi
        subst hi
        have hxb : (x != 0) = true := by simp [hx]
        clear hx
        go_wp2_with fail
        go_ret
        exact ⟨rfl, rfl⟩
    · obtain ⟨h1, _⟩ := get_ge hlt
      have hki : (es.length : Int) ≤ (k : Int) := by omega
      have hq0 : q = 0 := by rw [← HI.out, h1.out]; rfl
      subst hq0
      go_wp2_with fail
      go_ret
      exact ⟨rfl, rfl⟩

set_option maxHeartbeats 400000 in
set_option maxRecDepth 100000 in
theorem natural_any (n : Nat) (w : World) (hn : (Lib.decDigits n).length ≤ 1000000) :
    Calls Tryz.prog 19 #[.string (decT n)] w fun e w' => e = .returned (.tuple #[.string (resF n).1, .int .i64 (resF n).2]) ∧ w = w' := by
  obtain ⟨T, hT⟩ : ∃ T, decT n = T := ⟨_, rfl⟩
  have hs : T.size = (Lib.decDigits n).length := by rw [← hT, decT_size]
  unfold resF
  rw [hT]
  by_cases h : 2000 < (Lib.decDigits n).length
  · rw [if_pos h]
    have hi : (2000 : Int) < (T.size : Int) := by omega
    clear hs h hn hT
    go_enter Tryz.func19, Tryz.ntmps19
    go_wp2_with fail
    go_ret2
    exact ⟨rfl, rfl⟩
  · rw [if_neg h]
    have hi : (T.size : Int) ≤ 2000 := by omega
    clear hs h hn hT
    go_enter Tryz.func19, Tryz.ntmps19
    go_wp2_with fail
    go_ret2
    exact ⟨rfl, rfl⟩
end Go.Proofs.YtecfphohmgbddaaGreatDoor
