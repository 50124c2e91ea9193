/- ranksFact answers true -/
import Derived.Test.YtllhgkacbpgemaaRanks15
namespace Go.Proofs.Ytllhgkacbpgemaa
open Go.RowKit
set_option linter.unusedVariables false

def sA : List Int := [0, 1, 2, 3, 17]
def sB : List Int := [12, 13, 27, 2, 3]
def sC : List Int := [5, 18, 22, 7, 2, 11]
def sD : List Int := [5, 18, 9, 7, 15]
theorem fact_a1 : handErr sA = 0 := by decide +kernel
theorem fact_a2 : classF sA = 4 := by decide +kernel
theorem fact_b1 : handErr sB = 0 := by decide +kernel
theorem fact_b2 : valueF sB = 1570855 := by decide +kernel
theorem fact_c1 : bestErr sC = 0 := by decide +kernel
theorem fact_c2 : bestF sC = ([0, 1, 2, 3, 5], 539877) := by decide +kernel
theorem fact_d1 : winErr [sA, sD] = 0 := by decide +kernel
theorem fact_d2 : winF [sA, sD] = [0] := by decide +kernel
theorem fact_e : handErr (sA.take 4) = 3 := by decide +kernel

theorem rows_two_any {w : World} {e : TypeId} {a b : Value} {xs ys : List Int} (ha : Ints w a xs) (hb : Ints w b ys) (k : Nat) (hk : k = w.heap.size) :
    Rows (Value.int .i64) (w.alloc (.cells #[a, b] e)) (.slice (some ⟨k, 0, none⟩) 2 2) [xs, ys] := by
  subst hk
  have X : Ext w (w.alloc (.cells #[a, b] e)) := (Ext.refl w).alloc _
  refine ⟨[a, b], own_row (World.ownsRow_lit (base := w.heap.size) (e := e) (size := 1) w #[a, b] 2 (Nat.le_refl _) (by unfold maxLen; omega) rfl) (by omega), rfl, ?_⟩
  intro i u zs g1 g2
  match i with
  | 0 => simp at g1 g2; subst g1; subst g2; exact ha.ext X
  | 1 => simp at g1 g2; subst g1; subst g2; exact hb.ext X
  | i + 2 => simp at g1

set_option maxHeartbeats 3200000 in
set_option maxRecDepth 100000 in
theorem ranksFact_any (w : World) : Calls Try.prog 34 #[] w fun e w' => e = .returned (.bool true) ∧ Ext w w' := by
  go_enter Try.func34, Try.ntmps34
  go_wp2_with fail
  obtain ⟨w1, hw1⟩ : ∃ w1, w.alloc (.cells (sA.map (Value.int .i64)).toArray 3) = w1 := ⟨_, rfl⟩
  obtain ⟨w2, hw2⟩ : ∃ w2, w1.alloc (.cells (sB.map (Value.int .i64)).toArray 3) = w2 := ⟨_, rfl⟩
  have X1 : Ext w w1 := by rw [← hw1]; exact (Ext.refl w).alloc _
  have X12 : Ext w1 w2 := by rw [← hw2]; exact (Ext.refl w1).alloc _
  have IA1 : Ints w1 (.slice (some ⟨w.heap.size, 0, none⟩) 5 5) sA := by rw [← hw1]; exact lit_ints_at w 3 sA (by decide) _ rfl
  have IB : Ints w2 (.slice (some ⟨w.heap.size + 1, 0, none⟩) 5 5) sB := by rw [← hw2]; exact lit_ints_at w1 3 sB (by decide) _ (by rw [← hw1]; simp)
  have IA := IA1.ext X12
  have X2 := X1.trans X12
  have hw2' : (w.alloc (.cells (sA.map (Value.int .i64)).toArray 3)).alloc (.cells (sB.map (Value.int .i64)).toArray 3) = w2 := by rw [hw1, hw2]
  have HCL := Lib.hid (rclass_any _ sA w2 IA 0 4 fact_a1 fact_a2)
  have HVL := Lib.hid (fun (W : World) (hW : Ext w2 W) => rvalue_any _ sB W (IB.ext hW) 0 1570855 fact_b1 fact_b2)
  have HB := Lib.hid (fun (W : World) (v : Value) (hv : Ints W v sC) => best_any v sC W hv)
  have HWN := Lib.hid (fun (W : World) (v : Value) (hv : Rows (Value.int .i64) W v [sA, sD]) => winners_any v [sA, sD] W hv)
  have HFN := Lib.hid (fun (W : World) (v : Value) (hv : Ints W v [0, 0, 0, 0]) => fine_any v [0, 0, 0, 0] W hv true (by show _ = _; decide))
  have HCK := Lib.hid (fun (W : World) (v : Value) (hv : Ints W v (sA.take 4)) => ranksCheck_any v (sA.take 4) W hv 3 fact_e)
  have HIA := Lib.hid IA
  clear IA IA1 IB
  have hshow : (w.alloc (.cells #[.int .i64 0, .int .i64 1, .int .i64 2, .int .i64 3, .int .i64 17] 3)).alloc (.cells #[.int .i64 12, .int .i64 13, .int .i64 27, .int .i64 2, .int .i64 3] 3) = w2 := hw2'
  rw [hshow]
  clear hshow hw2' hw1 hw2
  refine HCL.out.mono ?_
  rintro e w3 ⟨rfl, hx3⟩
  go_wp2_with fail
  refine (HVL.out _ (by exact hx3)).mono ?_
  rintro e w4 ⟨rfl, hx4⟩
  have X4 := X2.trans (hx3.trans hx4)
  go_wp2_with fail
  refine (HB.out _ _ (by exact lit_ints_at _ _ sC (by decide) _ rfl)).mono ?_
  rintro e w5 hP
  obtain ⟨u, m, rfl, hx5, hcase⟩ := hP
  rcases hcase with ⟨h, _⟩ | ⟨_, rfl, hu⟩
  · exact absurd fact_c1 h
  rw [fact_c1]
  rw [fact_c2] at hu ⊢
  have HU := Lib.hid (rowN_ints hu)
  have X5 := X4.trans (((Ext.refl w4).alloc _).trans hx5)
  clear hu
  go_wp2_with fail
  refine (HWN.out _ _ (by exact rows_two_any ((HIA.out.ext (hx3.trans (hx4.trans (((Ext.refl w4).alloc _).trans hx5)))).ext ((Ext.refl w5).alloc _)) (lit_ints_at w5 _ sD (by decide) _ rfl) _ (by simp))).mono ?_
  rintro e w6 hP
  obtain ⟨u2, rfl, hx6, hcase⟩ := hP
  rcases hcase with ⟨h, _⟩ | ⟨_, hu2⟩
  · exact absurd fact_d1 h
  rw [fact_d1]
  rw [fact_d2] at hu2
  have HU2 := Lib.hid (rowN_ints hu2)
  have X56 := (((Ext.refl w5).alloc (.cells (sD.map (Value.int .i64)).toArray 3)).alloc (.cells #[.slice (some ⟨w.heap.size, 0, none⟩) 5 5, .slice (some ⟨w5.heap.size, 0, none⟩) 5 5] 22)).trans hx6
  have X6 := X5.trans X56
  clear hu2
  go_wp2_with fail
  refine (HFN.out _ _ (by exact lit_ints_at _ _ [0, 0, 0, 0] (by decide) _ rfl)).mono ?_
  rintro e w7 ⟨rfl, hx7⟩
  have X67 := ((Ext.refl w6).alloc _).trans hx7
  go_wp2_with fail
  refine (equal_ints u _ (natI [0, 1, 2, 3, 5]) (natI [0, 1, 2, 3, 5]) _ (by exact ((HU.out.ext (X56.trans X67)).ext ((Ext.refl w7).alloc _))) (by exact lit_ints_at w7 _ (natI [0, 1, 2, 3, 5]) (by decide) _ rfl) true (by simp [Hid])).mono ?_
  rintro e w8 ⟨rfl, hx8⟩
  have X78 := ((Ext.refl w7).alloc (.cells ((natI [0, 1, 2, 3, 5]).map (Value.int .i64)).toArray 3)).trans hx8
  go_wp2_with fail
  refine (equal_ints u2 _ (natI [0]) (natI [0]) _ (by exact ((HU2.out.ext (X67.trans X78)).ext ((Ext.refl w8).alloc _))) (by exact lit_ints_at w8 _ (natI [0]) (by decide) _ rfl) true (by simp [Hid])).mono ?_
  rintro e w9 ⟨rfl, hx9⟩
  have X89 := ((Ext.refl w8).alloc (.cells ((natI [0]).map (Value.int .i64)).toArray 3)).trans hx9
  have X9 := X6.trans (X67.trans (X78.trans X89))
  have hIA9 := HIA.out.ext ((hx3.trans (hx4.trans (((Ext.refl w4).alloc (.cells (sC.map (Value.int .i64)).toArray 3)).trans hx5))).trans (X56.trans (X67.trans (X78.trans X89))))
  obtain ⟨ao, c, hse, hl1, hl2, h00, hcc⟩ := hIA9.open'
  have h4 := hcc.take h00 hl2 hl1 (i := 4) (by decide)
  injection hse with hs1 hs2 hs3
  subst hs1; subst hs3
  have HK := Lib.hid (HCK.out _ _ h4)
  clear hIA9 hl1 hl2 h00 hcc h4
  go_wp2_with fail
  refine HK.out.mono ?_
  rintro e w' ⟨rfl, rfl⟩
  go_wp2_with fail
  go_ret
  exact ⟨rfl, X9⟩
end Go.Proofs.Ytllhgkacbpgemaa
