/- walks of the package ranks: Class, Value -/
import Derived.Test.YtllhgkacbpgemaaRanksQ
namespace Go.Proofs.Ytllhgkacbpgemaa
open Go.RowKit
set_option linter.unusedVariables false

def classF (xs : List Int) : Int := if handErr xs = 0 then classR xs else 0
def valueF (xs : List Int) : Int := if handErr xs = 0 then valueR xs else 0

set_option maxHeartbeats 800000 in
set_option maxRecDepth 100000 in
theorem rclass_any (v : Value) (xs : List Int) (w : World) (hv : Ints w v xs) (z q : Int) (hz : Hid (handErr xs = z)) (hq : Hid (classF xs = q)) :
    Calls Try.prog 35 #[v] w fun e w' => e = .returned (.tuple #[.int .i64 q, .int .i64 z]) ∧ Ext w w' := by
  have HC := Lib.hid (ranksCheck_any v xs w hv z hz)
  have hq2 := hq.out
  rw [classF, hz.out] at hq2
  by_cases h0 : z = 0
  · subst h0
    rw [if_pos rfl] at hq2
    have hk := handOk hz.out
    have HV := Lib.hid (classOf_any v xs w hv hk.rng (by rw [hk.len]; omega) (hand_law hk).2.1.base q (by show _ = _; rw [(hand_law hk).2.2.1]; exact hq2))
    clear hv hz hq hq2 hk
    go_enter Try.func35, Try.ntmps35
    go_wp2_with fail
    refine HC.out.mono ?_
    rintro e w' ⟨rfl, rfl⟩
    go_wp2_with fail
    refine HV.out.mono ?_
    rintro e w1 ⟨rfl, hx⟩
    go_wp2_with fail
    go_ret2
    exact ⟨rfl, hx⟩
  · rw [if_neg h0] at hq2
    subst hq2
    have hb : (z != 0) = true := by simp [h0]
    clear hv hz hq h0
    go_enter Try.func35, Try.ntmps35
    go_wp2_with fail
    refine HC.out.mono ?_
    rintro e w' ⟨rfl, rfl⟩
    go_wp2_with fail
    go_ret2
    exact ⟨rfl, Ext.refl w⟩

set_option maxHeartbeats 800000 in
set_option maxRecDepth 100000 in
theorem rvalue_any (v : Value) (xs : List Int) (w : World) (hv : Ints w v xs) (z q : Int) (hz : Hid (handErr xs = z)) (hq : Hid (valueF xs = q)) :
    Calls Try.prog 36 #[v] w fun e w' => e = .returned (.tuple #[.int .i64 q, .int .i64 z]) ∧ Ext w w' := by
  have HC := Lib.hid (ranksCheck_any v xs w hv z hz)
  have hq2 := hq.out
  rw [valueF, hz.out] at hq2
  by_cases h0 : z = 0
  · subst h0
    rw [if_pos rfl] at hq2
    have hk := handOk hz.out
    have HV := Lib.hid (valueOf_any v xs w hv hk.rng (by rw [hk.len]; omega) (hand_law hk).2.1 q (by show _ = _; rw [(hand_law hk).2.2.2]; exact hq2))
    clear hv hz hq hq2 hk
    go_enter Try.func36, Try.ntmps36
    go_wp2_with fail
    refine HC.out.mono ?_
    rintro e w' ⟨rfl, rfl⟩
    go_wp2_with fail
    refine HV.out.mono ?_
    rintro e w1 ⟨rfl, hx⟩
    go_wp2_with fail
    go_ret2
    exact ⟨rfl, hx⟩
  · rw [if_neg h0] at hq2
    subst hq2
    have hb : (z != 0) = true := by simp [h0]
    clear hv hz hq h0
    go_enter Try.func36, Try.ntmps36
    go_wp2_with fail
    refine HC.out.mono ?_
    rintro e w' ⟨rfl, rfl⟩
    go_wp2_with fail
    go_ret2
    exact ⟨rfl, Ext.refl w⟩

end Go.Proofs.Ytllhgkacbpgemaa
