/- walks of the package ranks: straight, classOf, valueOf -/
import Derived.Test.YtllhgkacbpgemaaRanks7
import Derived.Test.YtllhgkacbpgemaaRanks3
namespace Go.Proofs.Ytllhgkacbpgemaa
open Go.RowKit
set_option linter.unusedVariables false

def strP (l : List Nat) : Int :=
  if l.length < 5 then -1 else if (l.getD 0 0 : Int) - (l.getD 4 0 : Int) = 4 then (l.getD 0 0 : Int) else if l.getD 0 0 = 12 ∧ l.getD 1 0 = 3 then 3 else -1

theorem getD_of {α : Type} {xs : List α} {k : Nat} {x d : α} (h : Hid (xs[k]? = some x)) : xs.getD k d = x := by
  rw [List.getD_eq_getElem?_getD, h.out]; rfl

set_option maxHeartbeats 1600000 in
set_option maxRecDepth 100000 in
theorem straightP_any (v : Value) (l : List Nat) (w : World) (hv : RowOf encN w v l) (hl : ∀ x ∈ l, x < 13) (q : Int) (hq : Hid (strP l = q)) :
    Calls Try.prog 84 #[v] w fun e w' => e = .returned (.int .i64 q) ∧ Ext w w' := by
  obtain ⟨ao, c, rfl, hlen, hc⟩ := hv.open
  have HCC := Lib.hid hc
  have hq2 := hq.out
  rw [strP] at hq2
  have HL := Lib.hid hl
  clear hv hc hq hl
  by_cases h5 : l.length < 5
  · rw [if_pos h5] at hq2
    subst hq2
    have h5i : (l.length : Int) < 5 := by omega
    go_enter Try.func84, Try.ntmps84
    go_wp2_with fail
    go_ret
    exact ⟨rfl, Ext.refl w⟩
  · rw [if_neg h5] at hq2
    obtain ⟨a, a1, _, _⟩ := get_lt (xs := l) (k := 0) (by omega)
    obtain ⟨b, b1, _, _⟩ := get_lt (xs := l) (k := 1) (by omega)
    obtain ⟨d, d1, _, _⟩ := get_lt (xs := l) (k := 4) (by omega)
    obtain ⟨bk, off, rfl, hca⟩ := HCC.out.at a1
    rw [Nat.add_zero] at hca
    have hcb := HCC.out.at' b1
    have hcd := HCC.out.at' d1
    have ha := HL.out a (List.mem_of_getElem? a1.out)
    have hb := HL.out b (List.mem_of_getElem? b1.out)
    have hd := HL.out d (List.mem_of_getElem? d1.out)
    rw [getD_of a1, getD_of b1, getD_of d1] at hq2
    have h5i : (5 : Int) ≤ (l.length : Int) := by omega
    have h1i : (1 : Int) < (l.length : Int) := by omega
    have h4i : (4 : Int) < (l.length : Int) := by omega
    have h0i : (0 : Int) < (l.length : Int) := by omega
    have hn1 : 1 < l.length := by omega
    have hn4 : 4 < l.length := by omega
    have hn0 : 0 < l.length := by omega
    clear h5
    by_cases h1 : (a : Int) - (d : Int) = 4
    · rw [if_pos h1] at hq2
      subst hq2
      go_enter Try.func84, Try.ntmps84
      go_wp2_with fail
      go_quiet (fail)
      all_goals
        go_wp2_with fail
        go_ret
        exact ⟨rfl, (Ext.refl w).drewN _⟩
    · rw [if_neg h1] at hq2
      have hb1 : ((a : Int) - (d : Int) == 4) = false := by rw [beq_eq_false_iff_ne]; exact h1
      by_cases h2 : a = 12
      · subst h2
        by_cases h3 : b = 3
        · subst h3
          rw [if_pos ⟨rfl, rfl⟩] at hq2
          subst hq2
          clear h1
          go_enter Try.func84, Try.ntmps84
          go_wp2_with fail
          go_quiet (fail)
          all_goals
            go_wp2_with fail
            go_ret
            exact ⟨rfl, (Ext.refl w).drewN _⟩
        · rw [if_neg (by omega)] at hq2
          subst hq2
          have hb2 : (((b : Nat) : Int) == 3) = false := by rw [beq_eq_false_iff_ne]; omega
          clear h1 h3
          go_enter Try.func84, Try.ntmps84
          go_wp2_with fail
          go_quiet (fail)
          all_goals
            go_wp2_with fail
            go_ret
            exact ⟨rfl, (Ext.refl w).drewN _⟩
      · rw [if_neg (by omega)] at hq2
        subst hq2
        have hb2 : (((a : Nat) : Int) == 12) = false := by rw [beq_eq_false_iff_ne]; omega
        clear h1 h2
        go_enter Try.func84, Try.ntmps84
        go_wp2_with fail
        go_quiet (fail)
        all_goals
          go_wp2_with fail
          go_ret
          exact ⟨rfl, (Ext.refl w).drewN _⟩
end Go.Proofs.Ytllhgkacbpgemaa
