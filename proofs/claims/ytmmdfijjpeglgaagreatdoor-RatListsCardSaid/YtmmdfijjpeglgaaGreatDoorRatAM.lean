/- walk: short -/
import Derived.Test.YtmmdfijjpeglgaaGreatDoorRtG
namespace Go.Proofs.YtmmdfijjpeglgaaGreatDoor
open Go.RowKit
set_option linter.unusedVariables false

set_option maxHeartbeats 1600000 in
set_option maxRecDepth 100000 in
theorem shortClo_any (s : ByteArray) (w : World) (hs : s.size ≤ 9223372036854775806) :
    Calls Tryz.prog 110 #[.string s] w fun e w' => e = .returned (.bool (decide (60 < s.size))) ∧ Ext w w' := by
  have hb : decide ((60 : Int) < (s.size : Int)) = decide (60 < s.size) := by rw [decide_eq_decide]; omega
  rw [← hb]
  clear hb
  go_enter Tryz.func110, Tryz.ntmps110
  go_wp2_with fail
  go_ret
  exact ⟨rfl, Ext.refl _⟩

def shortB (l : List ByteArray) : Bool := decide (l.length ≤ 12) && !(l.any fun s => decide (60 < s.size))

set_option maxHeartbeats 1600000 in
set_option maxRecDepth 100000 in
theorem short_any (v : Value) (l : List ByteArray) (w : World) (hv : Strs w v l) (hs : ∀ s ∈ l, s.size ≤ 9223372036854775806) (q : Bool) (hq : shortB l = q) :
    Calls Tryz.prog 45 #[v] w fun e w' => e = .returned (.bool q) ∧ Ext w w' := by
  obtain ⟨p, hp⟩ : ∃ p, (l.any fun s => decide (60 < s.size)) = p := ⟨_, rfl⟩
  have HCF := Lib.hid (containsFunc_rats v (l.map Value.string) (l.map fun s => decide (60 < s.size)) 110 #[] w hv (by rw [List.length_map, List.length_map]) (fun _ _ => by kernel_rfl)
    (fun i u' q' W2 g1 g2 hW2 => by
      simp only [List.getElem?_map, Option.map_eq_some_iff] at g1 g2
      obtain ⟨y, hy, rfl⟩ := g1
      obtain ⟨z, hz, rfl⟩ := g2
      rw [hy] at hz
      cases hz
      exact shortClo_any y W2 (hs y (List.mem_of_getElem? hy)))
    p (by show _ = _; rw [List.any_map, ← hp]; rfl))
  unfold shortB at hq
  rw [hp] at hq
  obtain ⟨ao, c, rfl, hlen, hc⟩ := hv.open
  clear hc hv hs hp
  by_cases hl : l.length ≤ 12
  · rw [decide_eq_true hl, Bool.true_and] at hq
    subst hq
    have hli : (l.length : Int) ≤ 12 := by omega
    clear hl
    go_enter Tryz.func45, Tryz.ntmps45
    go_wp2_with fail
    refine HCF.out.mono ?_
    rintro e w2 ⟨rfl, X2⟩
    go_wp2_with fail
    go_ret
    exact ⟨by first | rfl | simp, X2⟩
  · rw [decide_eq_false hl, Bool.false_and] at hq
    subst hq
    have hli : ¬ (l.length : Int) ≤ 12 := by omega
    clear hl
    go_enter Tryz.func45, Tryz.ntmps45
    go_wp2_with fail
    go_ret
    exact ⟨rfl, Ext.refl _⟩
end Go.Proofs.YtmmdfijjpeglgaaGreatDoor
