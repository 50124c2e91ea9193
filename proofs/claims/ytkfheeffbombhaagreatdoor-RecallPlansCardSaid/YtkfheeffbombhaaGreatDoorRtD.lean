/- texts merged: RatD RatE -/
import Derived.Test.YtkfheeffbombhaaGreatDoorRtA
/- walks of package big: Mul, Div, Cmp of rational numbers -/
namespace Go.Proofs.YtkfheeffbombhaaGreatDoor
open Go.RowKit
set_option linter.unusedVariables false

set_option maxHeartbeats 3200000 in
set_option maxRecDepth 100000 in
theorem qMul_any (u v : Value) (a b : Rat) (w : World) (hu : QV w u a) (hv : QV w v b) (ha : QB a) (hb : QB b) :
    Calls Tryz.prog 71 #[u, v] w fun e w' => ∃ r, e = .returned r ∧ QV w' r (a * b) ∧ Ext w w' := by
  have QA := Lib.hid (fun W (hx : Ext w W) => hu.ext hx)
  have QBB := Lib.hid (fun W (hx : Ext w W) => hv.ext hx)
  obtain ⟨q, ao, l, c, bo, m, d, rfl, HN1, _, HD1⟩ := hu.opn
  obtain ⟨q2, ao2, l2, c2, bo2, m2, d2, rfl, HN2, _, HD2⟩ := hv.opn
  have da0 := a.den_pos
  have db0 := b.den_pos
  have HNM := Lib.hid (fun W (hx : Ext w W) => mul_any _ _ a.den b.den W (HD1.out W hx) (HD2.out W hx) (by have := ha.2; omega) (by have := hb.2; omega))
  have s4 : (dig (a.den * b.den)).length ≤ 200000000 := dig_len_mul (a := 100000000) (b := 100000000) ha.2 hb.2
  have hdd : ((a.den * b.den : Nat) : Int) ≠ 0 := by have := Nat.mul_pos da0 db0; omega
  have HM1 := Lib.hid (fun W (hx : Ext w W) => intMul_any _ _ a.num b.num W (HN1.out W hx) (HN2.out W hx) (by have := ha.1; omega) (by have := hb.1; omega))
  have s1 : (dig (a.num * b.num).natAbs).length ≤ 200000000 := dig_len_mulI (a := 100000000) (b := 100000000) ha.1 hb.1
  have HFR := Lib.hid (fun (x y : Value) W hx hy => by
    have := frac_any x y (a.num * b.num) ((a.den * b.den : Nat) : Int) W hx hy hdd (by omega) (by rw [Int.natAbs_natCast]; omega)
    rw [rat_mul] at this
    exact this)
  clear hu hv hdd s1 s4 ha hb da0 db0
  go_enter Tryz.func71, Tryz.ntmps71
  go_wp2_with fail
  obtain ⟨W3, hW3⟩ : ∃ W3, (((w.alloc (.cells #[.bool q, .slice ao l c, .slice bo m d] 99)).alloc (.cells #[.bool q2, .slice ao2 l2 c2, .slice bo2 m2 d2] 99)).alloc (.cells #[.bool false, .slice none 0 0, .slice none 0 0] 99)) = W3 := ⟨_, rfl⟩
  have HRES := Lib.hid (fun w2 (X : Ext W3 w2) => res3 (w := w) (w2 := w2) (g := w.heap.size + 2) (t := 99) (by simp) (((Ext.refl w).alloc (.cells #[.bool q, .slice ao l c, .slice bo m d] 99)).alloc (.cells #[.bool q2, .slice ao2 l2 c2, .slice bo2 m2 d2] 99)) (by rw [hW3]; exact X))
  have k1 : W3.cell? ⟨w.heap.size, 0, none⟩ = some (.bool q) := by rw [← hW3]; simp [go_sem]
  have k2 : W3.cell? ⟨w.heap.size, 1, none⟩ = some (.slice ao l c) := by rw [← hW3]; simp [go_sem]
  have k3 : W3.cell? ⟨w.heap.size, 2, none⟩ = some (.slice bo m d) := by rw [← hW3]; simp [go_sem]
  have k4 : W3.cell? ⟨w.heap.size + 1, 0, none⟩ = some (.bool q2) := by rw [← hW3]; simp [go_sem]
  have k5 : W3.cell? ⟨w.heap.size + 1, 1, none⟩ = some (.slice ao2 l2 c2) := by rw [← hW3]; simp [go_sem]
  have k6 : W3.cell? ⟨w.heap.size + 1, 2, none⟩ = some (.slice bo2 m2 d2) := by rw [← hW3]; simp [go_sem]
  have HX : Ext w W3 := by rw [← hW3]; exact (((Ext.refl w).alloc _).alloc _).alloc _
  rw [hW3]
  clear hW3
  go_region_held3 (fun w' => w'.cell? ⟨w.heap.size, 0, none⟩ = some (.bool q) ∧ w'.cell? ⟨w.heap.size, 1, none⟩ = some (.slice ao l c) ∧ w'.cell? ⟨w.heap.size, 2, none⟩ = some (.slice bo m d) ∧ w'.cell? ⟨w.heap.size + 1, 0, none⟩ = some (.bool q2) ∧ w'.cell? ⟨w.heap.size + 1, 1, none⟩ = some (.slice ao2 l2 c2) ∧ w'.cell? ⟨w.heap.size + 1, 2, none⟩ = some (.slice bo2 m2 d2)) (first | exact ⟨k1, k2, k3, k4, k5, k6⟩ | exact ⟨X5.cell k1, X5.cell k2, X5.cell k3, X5.cell k4, X5.cell k5, X5.cell k6⟩ | exact ⟨X6.cell k1, X6.cell k2, X6.cell k3, X6.cell k4, X6.cell k5, X6.cell k6⟩ | exact ⟨X7.cell k1, X7.cell k2, X7.cell k3, X7.cell k4, X7.cell k5, X7.cell k6⟩ | exact ⟨R.out.far _ _ _ _ _ _ (by omega) (X7.cell k1), R.out.far _ _ _ _ _ _ (by omega) (X7.cell k2), R.out.far _ _ _ _ _ _ (by omega) (X7.cell k3), R.out.far _ _ _ _ _ _ (by omega) (X7.cell k4), R.out.far _ _ _ _ _ _ (by omega) (X7.cell k5), R.out.far _ _ _ _ _ _ (by omega) (X7.cell k6)⟩ | go_keep)
    (first
    | (go_at_call 101; refine (HM1.out _ (by exact HX.drew)).mono ?_; rintro e w5 ⟨r5, rfl, hr5, Y5⟩; have X5 : Ext W3 w5 := (Ext.refl W3).drew.trans Y5; obtain ⟨q15, ao15, l15, c15, rfl, _, _, _⟩ := hr5.opn; have HR5 := Lib.hid hr5; clear hr5)
    | (go_at_call 102; refine (HNM.out _ (by exact HX.trans X5)).mono ?_; rintro e w6 ⟨r6, rfl, hr6, Y6⟩; have X6 : Ext W3 w6 := X5.trans Y6; obtain ⟨ao16, l16, c16, rfl, _, HR6⟩ := hr6.opn; clear hr6)
    | (go_at_call 100; refine (HFR.out _ _ _ (HR5.out.ext Y6) (natInt HR6.out)).mono ?_; rintro e w7 ⟨r7, rfl, hr7, Y7⟩; have X7 : Ext W3 w7 := X6.trans Y7; obtain ⟨s17, ao17, l17, c17, bo17, m17, d17, rfl, _, _, _⟩ := hr7.opn; have HR7 := Lib.hid hr7; clear hr7; have R := HRES.out _ X7; have f0 := R.f0; have c0 := R.c0; have f1 := R.f1; have c1 := R.c1; have f2 := R.f2; have e2 := R.c2; have R := Lib.hid R))
  all_goals
    go_wp2_with fail
    refine bodyPost_ret (v := .agg #[.bool s17, .slice ao17 l17 c17, .slice bo17 m17 d17]) (by simp [results, Tryz.results71, go_sem, R.out.d0, R.out.d1, R.out.d2]) rfl ?_
    exact ⟨_, rfl, R.out.q _ _ _ HR7.out, R.out.ext _ _ _⟩

set_option maxHeartbeats 3200000 in
set_option maxRecDepth 100000 in
theorem qCmp_any (u v : Value) (a b : Rat) (w : World) (hu : QV w u a) (hv : QV w v b) (ha : QB a) (hb : QB b) :
    Calls Tryz.prog 108 #[u, v] w fun e w' => e = .returned (.int .i64 (a.num * b.den - b.num * a.den).sign) ∧ Ext w w' := by
  have QA := Lib.hid (fun W (hx : Ext w W) => hu.ext hx)
  have QBB := Lib.hid (fun W (hx : Ext w W) => hv.ext hx)
  obtain ⟨q, ao, l, c, bo, m, d, rfl, HN1, _, HD1⟩ := hu.opn
  obtain ⟨q2, ao2, l2, c2, bo2, m2, d2, rfl, HN2, _, HD2⟩ := hv.opn
  have da0 := a.den_pos
  have db0 := b.den_pos
  have HM1 := Lib.hid (fun W (hx : Ext w W) => intMul_any _ _ a.num (b.den : Int) W (HN1.out W hx) (natInt (HD2.out W hx)) (by have := ha.1; omega) (by have := hb.2; rw [Int.natAbs_natCast]; omega))
  have HM2 := Lib.hid (fun W (hx : Ext w W) => intMul_any _ _ b.num (a.den : Int) W (HN2.out W hx) (natInt (HD1.out W hx)) (by have := hb.1; omega) (by have := ha.2; rw [Int.natAbs_natCast]; omega))
  have s1 : (dig (a.num * (b.den : Int)).natAbs).length ≤ 200000000 := dig_len_mulI (a := 100000000) (b := 100000000) ha.1 (by rw [Int.natAbs_natCast]; exact hb.2)
  have s2 : (dig (b.num * (a.den : Int)).natAbs).length ≤ 200000000 := dig_len_mulI (a := 100000000) (b := 100000000) hb.1 (by rw [Int.natAbs_natCast]; exact ha.2)
  have HCM := Lib.hid (fun (x y : Value) W hx hy => intCmp_any x y (a.num * (b.den : Int)) (b.num * (a.den : Int)) W hx hy (by omega) (by omega))
  generalize (a.num * (b.den : Int) - b.num * (a.den : Int)).sign = sgn at *
  clear hu hv s1 s2 ha hb da0 db0
  go_enter Tryz.func108, Tryz.ntmps108
  go_wp2_with fail
  obtain ⟨W3, hW3⟩ : ∃ W3, (((w.alloc (.cells #[.bool q, .slice ao l c, .slice bo m d] 99)).alloc (.cells #[.bool q2, .slice ao2 l2 c2, .slice bo2 m2 d2] 99))) = W3 := ⟨_, rfl⟩
  have k1 : W3.cell? ⟨w.heap.size, 0, none⟩ = some (.bool q) := by rw [← hW3]; simp [go_sem]
  have k2 : W3.cell? ⟨w.heap.size, 1, none⟩ = some (.slice ao l c) := by rw [← hW3]; simp [go_sem]
  have k3 : W3.cell? ⟨w.heap.size, 2, none⟩ = some (.slice bo m d) := by rw [← hW3]; simp [go_sem]
  have k4 : W3.cell? ⟨w.heap.size + 1, 0, none⟩ = some (.bool q2) := by rw [← hW3]; simp [go_sem]
  have k5 : W3.cell? ⟨w.heap.size + 1, 1, none⟩ = some (.slice ao2 l2 c2) := by rw [← hW3]; simp [go_sem]
  have k6 : W3.cell? ⟨w.heap.size + 1, 2, none⟩ = some (.slice bo2 m2 d2) := by rw [← hW3]; simp [go_sem]
  have HX : Ext w W3 := by rw [← hW3]; exact ((Ext.refl w).alloc _).alloc _
  rw [hW3]
  clear hW3
  go_region_held3 (fun w' => w'.cell? ⟨w.heap.size, 0, none⟩ = some (.bool q) ∧ w'.cell? ⟨w.heap.size, 1, none⟩ = some (.slice ao l c) ∧ w'.cell? ⟨w.heap.size, 2, none⟩ = some (.slice bo m d) ∧ w'.cell? ⟨w.heap.size + 1, 0, none⟩ = some (.bool q2) ∧ w'.cell? ⟨w.heap.size + 1, 1, none⟩ = some (.slice ao2 l2 c2) ∧ w'.cell? ⟨w.heap.size + 1, 2, none⟩ = some (.slice bo2 m2 d2)) (first | exact ⟨k1, k2, k3, k4, k5, k6⟩ | exact ⟨X5.cell k1, X5.cell k2, X5.cell k3, X5.cell k4, X5.cell k5, X5.cell k6⟩ | exact ⟨X6.cell k1, X6.cell k2, X6.cell k3, X6.cell k4, X6.cell k5, X6.cell k6⟩ | exact ⟨X7.cell k1, X7.cell k2, X7.cell k3, X7.cell k4, X7.cell k5, X7.cell k6⟩ | go_keep)
    (first
    | (go_at_call_of 101 (Value.agg #[.bool q, .slice ao l c]); refine (HM1.out _ (by exact HX.drew)).mono ?_; rintro e w5 ⟨r5, rfl, hr5, Y5⟩; have X5 : Ext W3 w5 := (Ext.refl W3).drew.trans Y5; obtain ⟨q15, ao15, l15, c15, rfl, _, _, _⟩ := hr5.opn; have HR5 := Lib.hid hr5; clear hr5)
    | (go_at_call_of 101 (Value.agg #[.bool q2, .slice ao2 l2 c2]); refine (HM2.out _ (by exact HX.trans X5)).mono ?_; rintro e w6 ⟨r6, rfl, hr6, Y6⟩; have X6 : Ext W3 w6 := X5.trans Y6; obtain ⟨q16, ao16, l16, c16, rfl, _, _, _⟩ := hr6.opn; have HR6 := Lib.hid hr6; clear hr6)
    | (go_at_call 146; refine (HCM.out _ _ _ (HR5.out.ext Y6) HR6.out).mono ?_; rintro e w7 ⟨rfl, Y7⟩; have X7 : Ext W3 w7 := X6.trans Y7))
  all_goals
    go_wp2_with fail
    go_ret
    exact ⟨rfl, HX.trans X7⟩
end Go.Proofs.YtkfheeffbombhaaGreatDoor
/- walks of package big: Opp, Sub, Sign of rational numbers -/
namespace Go.Proofs.YtkfheeffbombhaaGreatDoor
open Go.RowKit
set_option linter.unusedVariables false

end Go.Proofs.YtkfheeffbombhaaGreatDoor
