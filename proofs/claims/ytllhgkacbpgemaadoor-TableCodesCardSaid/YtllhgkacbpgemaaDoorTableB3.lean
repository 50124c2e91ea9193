/- leaves of TableCodes -/
import Derived.Test.YtllhgkacbpgemaaDoorTable8
namespace Go.Proofs.YtllhgkacbpgemaaDoor
open Go.RowKit
set_option linter.unusedVariables false

set_option maxHeartbeats 1600000 in
set_option maxRecDepth 100000 in
theorem codes_a1b2 (r p n : Int) (w : World) (hTF : TFact (w.alloc (.cells #[.int .i64 r, .int .i64 p] 49))) (h1 : 1 ≤ r) (h1b : 3 < r) (h2 : 3 ≤ n) (h2b : n ≤ 9999) (h2c : n % 3 = 2) :
    Calls Tryd.prog 6 #[.agg #[.int .i64 r, .int .i64 p], .int .i64 n] w fun e w' => e = .returned (.bool true) ∧ Ext w w' := by
  have HTF := Lib.hid hTF
  have hz : Hid (codeErr r p = 4) := by show _ = _; rw [codeErr, if_pos (by omega)]
  have hq : Hid (codeF r p = 0) := by show _ = _; rw [codeF, hz.out]; rfl
  have he : Hid (entryErr n = 3) := by show _ = _; rw [entryErr, if_neg (by omega), if_pos (by omega)]
  have g5 : (n != 2) = true := by simp; omega
  clear hTF
  go_enter Tryd.func6, Tryd.ntmps6
  go_wp2_with fail
  refine HTF.out.mono ?_
  rintro e w1 ⟨rfl, X1⟩
  have c0 : w1.cell? ⟨w.heap.size, 0, none⟩ = some (.int .i64 r) := X1.cell (box_cell0 _ _ _ _)
  have c1 : w1.cell? ⟨w.heap.size, 1, none⟩ = some (.int .i64 p) := X1.cell (box_cell1 _ _ _ _)
  go_wp2_with fail
  refine (code_any r p _ _ _ hq hz).mono ?_
  rintro e w2 ⟨rfl, X2⟩
  have d0 := X2.cell c0
  have d1 := X2.cell c1
  clear c0 c1
  go_wp2_with fail
  refine (entry_any n _).mono ?_
  rintro e w3 ⟨a, b, rfl, X3, hab⟩
  rw [he.out]
  have e0 := X3.cell d0
  have e1 := X3.cell d1
  clear d0 d1
  have f0 := ((Ext.refl w3).alloc (.cells #[.int .i64 a, .int .i64 b] 49)).cell e0
  have f1 := ((Ext.refl w3).alloc (.cells #[.int .i64 a, .int .i64 b] 49)).cell e1
  have hab2 : a = 0 ∧ b = 0 := by
    rcases hab with ⟨_, h⟩ | ⟨h, _⟩
    · exact h
    · rw [he.out] at h; cases h
  obtain ⟨rfl, rfl⟩ := hab2
  clear hab
  go_wp2_with fail
  go_ret
  exact ⟨rfl, (((((Ext.refl w).alloc _).trans X1).trans X2).trans X3).alloc _⟩
set_option maxHeartbeats 1600000 in
set_option maxRecDepth 100000 in
theorem codes_a2b3 (r p n : Int) (w : World) (hTF : TFact (w.alloc (.cells #[.int .i64 r, .int .i64 p] 49))) (h1 : 1 ≤ r) (h1b : r ≤ 3) (h1c : p < 0) (h2 : n = 2) :
    Calls Tryd.prog 6 #[.agg #[.int .i64 r, .int .i64 p], .int .i64 n] w fun e w' => e = .returned (.bool true) ∧ Ext w w' := by
  have HTF := Lib.hid hTF
  have hz : Hid (codeErr r p = 4) := by show _ = _; rw [codeErr, if_pos (by omega)]
  have hq : Hid (codeF r p = 0) := by show _ = _; rw [codeF, hz.out]; rfl
  subst h2
  have he : Hid (entryErr 2 = 0) := by show _ = _; decide
  clear hTF
  go_enter Tryd.func6, Tryd.ntmps6
  go_wp2_with fail
  refine HTF.out.mono ?_
  rintro e w1 ⟨rfl, X1⟩
  have c0 : w1.cell? ⟨w.heap.size, 0, none⟩ = some (.int .i64 r) := X1.cell (box_cell0 _ _ _ _)
  have c1 : w1.cell? ⟨w.heap.size, 1, none⟩ = some (.int .i64 p) := X1.cell (box_cell1 _ _ _ _)
  go_wp2_with fail
  refine (code_any r p _ _ _ hq hz).mono ?_
  rintro e w2 ⟨rfl, X2⟩
  have d0 := X2.cell c0
  have d1 := X2.cell c1
  clear c0 c1
  go_wp2_with fail
  refine (entry_any 2 _).mono ?_
  rintro e w3 ⟨a, b, rfl, X3, hab⟩
  rw [he.out]
  have e0 := X3.cell d0
  have e1 := X3.cell d1
  clear d0 d1
  have f0 := ((Ext.refl w3).alloc (.cells #[.int .i64 a, .int .i64 b] 49)).cell e0
  have f1 := ((Ext.refl w3).alloc (.cells #[.int .i64 a, .int .i64 b] 49)).cell e1
  have hab2 : a = 3 ∧ b = 0 := by
    rcases hab with ⟨h, _⟩ | ⟨_, h1, h2⟩
    · exact absurd he.out h
    · omega
  obtain ⟨rfl, rfl⟩ := hab2
  clear hab
  go_wp2_with fail
  go_ret
  exact ⟨rfl, (((((Ext.refl w).alloc _).trans X1).trans X2).trans X3).alloc _⟩
set_option maxHeartbeats 1600000 in
set_option maxRecDepth 100000 in
theorem codes_a3b4 (r p n : Int) (w : World) (hTF : TFact (w.alloc (.cells #[.int .i64 r, .int .i64 p] 49))) (h1 : 1 ≤ r) (h1b : r ≤ 3) (h1c : 0 ≤ p) (h1d : 3333 < p) (h2 : 0 ≤ n) (h2b : n ≤ 9999) (h2c : n % 3 ≠ 2) :
    Calls Tryd.prog 6 #[.agg #[.int .i64 r, .int .i64 p], .int .i64 n] w fun e w' => e = .returned (.bool true) ∧ Ext w w' := by
  have HTF := Lib.hid hTF
  have hz : Hid (codeErr r p = 4) := by show _ = _; rw [codeErr, if_pos (by omega)]
  have hq : Hid (codeF r p = 0) := by show _ = _; rw [codeF, hz.out]; rfl
  have he : Hid (entryErr n = 0) := by show _ = _; rw [entryErr, if_neg (by omega), if_neg (by omega)]
  obtain ⟨m, hm⟩ : ∃ m, n % 3 = m := ⟨_, rfl⟩
  have g5 : (m == 2) = false := by rw [beq_eq_false_iff_ne]; omega
  clear hTF
  go_enter Tryd.func6, Tryd.ntmps6
  go_wp2_with fail
  refine HTF.out.mono ?_
  rintro e w1 ⟨rfl, X1⟩
  have c0 : w1.cell? ⟨w.heap.size, 0, none⟩ = some (.int .i64 r) := X1.cell (box_cell0 _ _ _ _)
  have c1 : w1.cell? ⟨w.heap.size, 1, none⟩ = some (.int .i64 p) := X1.cell (box_cell1 _ _ _ _)
  go_wp2_with fail
  refine (code_any r p _ _ _ hq hz).mono ?_
  rintro e w2 ⟨rfl, X2⟩
  have d0 := X2.cell c0
  have d1 := X2.cell c1
  clear c0 c1
  go_wp2_with fail
  refine (entry_any n _).mono ?_
  rintro e w3 ⟨a, b, rfl, X3, hab⟩
  rw [he.out]
  have e0 := X3.cell d0
  have e1 := X3.cell d1
  clear d0 d1
  have f0 := ((Ext.refl w3).alloc (.cells #[.int .i64 a, .int .i64 b] 49)).cell e0
  have f1 := ((Ext.refl w3).alloc (.cells #[.int .i64 a, .int .i64 b] 49)).cell e1
  have hab2 : 3 * b + a = n + 1 ∧ 1 ≤ a ∧ a ≤ 3 ∧ 0 ≤ b ∧ b ≤ 3333 := by
    rcases hab with ⟨h, _⟩ | ⟨_, h1, h2⟩
    · exact absurd he.out h
    · omega
  obtain ⟨g6, g7, g8, g9, g10⟩ := hab2
  clear hab
  go_wp2_with fail
  go_ret
  exact ⟨rfl, (((((Ext.refl w).alloc _).trans X1).trans X2).trans X3).alloc _⟩
set_option maxHeartbeats 1600000 in
set_option maxRecDepth 100000 in
theorem codes_a5b0 (r p n : Int) (w : World) (hTF : TFact (w.alloc (.cells #[.int .i64 r, .int .i64 p] 49))) (h1 : r = 3) (h1c : 0 < p) (h1d : p ≤ 3332) (h2 : n < 0) :
    Calls Tryd.prog 6 #[.agg #[.int .i64 r, .int .i64 p], .int .i64 n] w fun e w' => e = .returned (.bool true) ∧ Ext w w' := by
  have HTF := Lib.hid hTF
  subst h1
  have hz : Hid (codeErr 3 p = 3) := by show _ = _; rw [codeErr, if_neg (by omega), if_pos (by omega)]
  have hq : Hid (codeF 3 p = 0) := by show _ = _; rw [codeF, hz.out]; rfl
  have g1 : 3 * p + 3 ≤ 10000 := by omega
  have he : Hid (entryErr n = 4) := by show _ = _; rw [entryErr, if_pos (.inl h2)]
  clear hTF
  go_enter Tryd.func6, Tryd.ntmps6
  go_wp2_with fail
  refine HTF.out.mono ?_
  rintro e w1 ⟨rfl, X1⟩
  have c0 : w1.cell? ⟨w.heap.size, 0, none⟩ = some (.int .i64 3) := X1.cell (box_cell0 _ _ _ _)
  have c1 : w1.cell? ⟨w.heap.size, 1, none⟩ = some (.int .i64 p) := X1.cell (box_cell1 _ _ _ _)
  go_wp2_with fail
  refine (code_any 3 p _ _ _ hq hz).mono ?_
  rintro e w2 ⟨rfl, X2⟩
  have d0 := X2.cell c0
  have d1 := X2.cell c1
  clear c0 c1
  go_wp2_with fail
  refine (entry_any n _).mono ?_
  rintro e w3 ⟨a, b, rfl, X3, hab⟩
  rw [he.out]
  have e0 := X3.cell d0
  have e1 := X3.cell d1
  clear d0 d1
  have f0 := ((Ext.refl w3).alloc (.cells #[.int .i64 a, .int .i64 b] 49)).cell e0
  have f1 := ((Ext.refl w3).alloc (.cells #[.int .i64 a, .int .i64 b] 49)).cell e1
  have hab2 : a = 0 ∧ b = 0 := by
    rcases hab with ⟨_, h⟩ | ⟨h, _⟩
    · exact h
    · rw [he.out] at h; cases h
  obtain ⟨rfl, rfl⟩ := hab2
  clear hab
  go_wp2_with fail
  go_ret
  exact ⟨rfl, (((((Ext.refl w).alloc _).trans X1).trans X2).trans X3).alloc _⟩
set_option maxHeartbeats 1600000 in
set_option maxRecDepth 100000 in
theorem codes_a5b4 (r p n : Int) (w : World) (hTF : TFact (w.alloc (.cells #[.int .i64 r, .int .i64 p] 49))) (h1 : r = 3) (h1c : 0 < p) (h1d : p ≤ 3332) (h2 : 0 ≤ n) (h2b : n ≤ 9999) (h2c : n % 3 ≠ 2) :
    Calls Tryd.prog 6 #[.agg #[.int .i64 r, .int .i64 p], .int .i64 n] w fun e w' => e = .returned (.bool true) ∧ Ext w w' := by
  have HTF := Lib.hid hTF
  subst h1
  have hz : Hid (codeErr 3 p = 3) := by show _ = _; rw [codeErr, if_neg (by omega), if_pos (by omega)]
  have hq : Hid (codeF 3 p = 0) := by show _ = _; rw [codeF, hz.out]; rfl
  have g1 : 3 * p + 3 ≤ 10000 := by omega
  have he : Hid (entryErr n = 0) := by show _ = _; rw [entryErr, if_neg (by omega), if_neg (by omega)]
  obtain ⟨m, hm⟩ : ∃ m, n % 3 = m := ⟨_, rfl⟩
  have g5 : (m == 2) = false := by rw [beq_eq_false_iff_ne]; omega
  clear hTF
  go_enter Tryd.func6, Tryd.ntmps6
  go_wp2_with fail
  refine HTF.out.mono ?_
  rintro e w1 ⟨rfl, X1⟩
  have c0 : w1.cell? ⟨w.heap.size, 0, none⟩ = some (.int .i64 3) := X1.cell (box_cell0 _ _ _ _)
  have c1 : w1.cell? ⟨w.heap.size, 1, none⟩ = some (.int .i64 p) := X1.cell (box_cell1 _ _ _ _)
  go_wp2_with fail
  refine (code_any 3 p _ _ _ hq hz).mono ?_
  rintro e w2 ⟨rfl, X2⟩
  have d0 := X2.cell c0
  have d1 := X2.cell c1
  clear c0 c1
  go_wp2_with fail
  refine (entry_any n _).mono ?_
  rintro e w3 ⟨a, b, rfl, X3, hab⟩
  rw [he.out]
  have e0 := X3.cell d0
  have e1 := X3.cell d1
  clear d0 d1
  have f0 := ((Ext.refl w3).alloc (.cells #[.int .i64 a, .int .i64 b] 49)).cell e0
  have f1 := ((Ext.refl w3).alloc (.cells #[.int .i64 a, .int .i64 b] 49)).cell e1
  have hab2 : 3 * b + a = n + 1 ∧ 1 ≤ a ∧ a ≤ 3 ∧ 0 ≤ b ∧ b ≤ 3333 := by
    rcases hab with ⟨h, _⟩ | ⟨_, h1, h2⟩
    · exact absurd he.out h
    · omega
  obtain ⟨g6, g7, g8, g9, g10⟩ := hab2
  clear hab
  go_wp2_with fail
  go_ret
  exact ⟨rfl, (((((Ext.refl w).alloc _).trans X1).trans X2).trans X3).alloc _⟩
set_option maxHeartbeats 1600000 in
set_option maxRecDepth 100000 in
theorem codes_a6b3 (r p n : Int) (w : World) (hTF : TFact (w.alloc (.cells #[.int .i64 r, .int .i64 p] 49))) (h1 : r = 3) (h1c : p = 0) (h2 : n = 2) :
    Calls Tryd.prog 6 #[.agg #[.int .i64 r, .int .i64 p], .int .i64 n] w fun e w' => e = .returned (.bool true) ∧ Ext w w' := by
  have HTF := Lib.hid hTF
  subst h1
  subst h1c
  have hz : Hid (codeErr 3 0 = 0) := by show _ = _; decide
  have hq : Hid (codeF 3 0 = 2) := by show _ = _; decide
  subst h2
  have he : Hid (entryErr 2 = 0) := by show _ = _; decide
  clear hTF
  go_enter Tryd.func6, Tryd.ntmps6
  go_wp2_with fail
  refine HTF.out.mono ?_
  rintro e w1 ⟨rfl, X1⟩
  have c0 : w1.cell? ⟨w.heap.size, 0, none⟩ = some (.int .i64 3) := X1.cell (box_cell0 _ _ _ _)
  have c1 : w1.cell? ⟨w.heap.size, 1, none⟩ = some (.int .i64 0) := X1.cell (box_cell1 _ _ _ _)
  go_wp2_with fail
  refine (code_any 3 0 _ _ _ hq hz).mono ?_
  rintro e w2 ⟨rfl, X2⟩
  have d0 := X2.cell c0
  have d1 := X2.cell c1
  clear c0 c1
  go_wp2_with fail
  refine (entry_any 2 _).mono ?_
  rintro e w3 ⟨a, b, rfl, X3, hab⟩
  rw [he.out]
  have e0 := X3.cell d0
  have e1 := X3.cell d1
  clear d0 d1
  have f0 := ((Ext.refl w3).alloc (.cells #[.int .i64 a, .int .i64 b] 49)).cell e0
  have f1 := ((Ext.refl w3).alloc (.cells #[.int .i64 a, .int .i64 b] 49)).cell e1
  have hab2 : a = 3 ∧ b = 0 := by
    rcases hab with ⟨h, _⟩ | ⟨_, h1, h2⟩
    · exact absurd he.out h
    · omega
  obtain ⟨rfl, rfl⟩ := hab2
  clear hab
  go_wp2_with fail
  go_ret
  exact ⟨rfl, (((((Ext.refl w).alloc _).trans X1).trans X2).trans X3).alloc _⟩
set_option maxHeartbeats 1600000 in
set_option maxRecDepth 100000 in
theorem codes_a7b2 (r p n : Int) (w : World) (hTF : TFact (w.alloc (.cells #[.int .i64 r, .int .i64 p] 49))) (h1 : 1 ≤ r) (h1b : r ≤ 2) (h1c : 0 ≤ p) (h1d : p ≤ 3333) (h1e : 3 * p + r ≤ 10000) (h2 : 3 ≤ n) (h2b : n ≤ 9999) (h2c : n % 3 = 2) :
    Calls Tryd.prog 6 #[.agg #[.int .i64 r, .int .i64 p], .int .i64 n] w fun e w' => e = .returned (.bool true) ∧ Ext w w' := by
  have HTF := Lib.hid hTF
  obtain ⟨q, hq0⟩ : ∃ q, 3 * p + r - 1 = q := ⟨_, rfl⟩
  have hz : Hid (codeErr r p = 0) := by show _ = _; rw [codeErr, if_neg (by omega), if_neg (by omega)]
  have hq : Hid (codeF r p = q) := by show _ = _; rw [codeF, hz.out, ← hq0]; rfl
  have g0 : ((r : Int) == 3) = false := by rw [beq_eq_false_iff_ne]; omega
  have g2 : (q != q) = false := by simp
  have he : Hid (entryErr n = 3) := by show _ = _; rw [entryErr, if_neg (by omega), if_pos (by omega)]
  have g5 : (n != 2) = true := by simp; omega
  clear hTF
  go_enter Tryd.func6, Tryd.ntmps6
  go_wp2_with fail
  refine HTF.out.mono ?_
  rintro e w1 ⟨rfl, X1⟩
  have c0 : w1.cell? ⟨w.heap.size, 0, none⟩ = some (.int .i64 r) := X1.cell (box_cell0 _ _ _ _)
  have c1 : w1.cell? ⟨w.heap.size, 1, none⟩ = some (.int .i64 p) := X1.cell (box_cell1 _ _ _ _)
  go_wp2_with fail
  refine (code_any r p _ _ _ hq hz).mono ?_
  rintro e w2 ⟨rfl, X2⟩
  have d0 := X2.cell c0
  have d1 := X2.cell c1
  clear c0 c1
  go_wp2_with fail
  refine (entry_any n _).mono ?_
  rintro e w3 ⟨a, b, rfl, X3, hab⟩
  rw [he.out]
  have e0 := X3.cell d0
  have e1 := X3.cell d1
  clear d0 d1
  have f0 := ((Ext.refl w3).alloc (.cells #[.int .i64 a, .int .i64 b] 49)).cell e0
  have f1 := ((Ext.refl w3).alloc (.cells #[.int .i64 a, .int .i64 b] 49)).cell e1
  have hab2 : a = 0 ∧ b = 0 := by
    rcases hab with ⟨_, h⟩ | ⟨h, _⟩
    · exact h
    · rw [he.out] at h; cases h
  obtain ⟨rfl, rfl⟩ := hab2
  clear hab
  go_wp2_with fail
  go_ret
  exact ⟨rfl, (((((Ext.refl w).alloc _).trans X1).trans X2).trans X3).alloc _⟩
end Go.Proofs.YtllhgkacbpgemaaDoor
