/- leaves of TableCodes -/
import Derived.Test.YtllhgkacbpgemaaDoorTable8
namespace Go.Proofs.YtllhgkacbpgemaaDoor
open Go.RowKit
set_option linter.unusedVariables false

set_option maxHeartbeats 800000 in
set_option maxRecDepth 100000 in
theorem codes_0_1 (r p n : Int) (w : World) (hTF : TFact (w.alloc (.cells #[.int .i64 r, .int .i64 p] 49))) (h1 : r < 1) (h2 : 0 ≤ n) (h2b : 9999 < n) :
    Calls Tryd.prog 6 #[.agg #[.int .i64 r, .int .i64 p], .int .i64 n] w fun e w' => e = .returned (.bool true) ∧ Ext w w' := by
  have HTF := Lib.hid hTF
  have hz : Hid (codeErr r p = 4) := by show _ = _; rw [codeErr, if_pos (.inl h1)]
  have hq : Hid (codeF r p = 0) := by show _ = _; rw [codeF, hz.out]; rfl
  have he : Hid (entryErr n = 4) := by show _ = _; rw [entryErr, if_pos (.inr h2b)]
  clear hTF
  go_enter Tryd.func6, Tryd.ntmps6
  go_wp2_with fail
  refine HTF.out.mono ?_
  rintro e w1 ⟨rfl, X1⟩
  have c0 : w1.cell? ⟨w.heap.size, 0, none⟩ = some (.int .i64 r) := X1.cell (box_cell0 _ _ _ _)
  have c1 : w1.cell? ⟨w.heap.size, 1, none⟩ = some (.int .i64 p) := X1.cell (box_cell1 _ _ _ _)
  go_wp2_with fail
  refine (code_any r p _ _ _ hq hz).mono ?_
  rintro e w2 ⟨rfl, X2⟩
  have d0 := X2.cell c0
  have d1 := X2.cell c1
  clear c0 c1
  go_wp2_with fail
  refine (entry_any n _).mono ?_
  rintro e w3 ⟨a, b, rfl, X3, hab⟩
  rw [he.out]
  have e0 := X3.cell d0
  have e1 := X3.cell d1
  clear d0 d1
  have f0 := ((Ext.refl w3).alloc (.cells #[.int .i64 a, .int .i64 b] 49)).cell e0
  have f1 := ((Ext.refl w3).alloc (.cells #[.int .i64 a, .int .i64 b] 49)).cell e1
  have hab2 : a = 0 ∧ b = 0 := by
    rcases hab with ⟨_, h⟩ | ⟨h, _⟩
    · exact h
    · rw [he.out] at h; cases h
  obtain ⟨rfl, rfl⟩ := hab2
  clear hab
  go_wp2_with fail
  go_ret
  exact ⟨rfl, (((((Ext.refl w).alloc _).trans X1).trans X2).trans X3).alloc _⟩
set_option maxHeartbeats 800000 in
set_option maxRecDepth 100000 in
theorem codes_1_0 (r p n : Int) (w : World) (hTF : TFact (w.alloc (.cells #[.int .i64 r, .int .i64 p] 49))) (h1 : 1 ≤ r) (h1b : 3 < r) (h2 : n < 0) :
    Calls Tryd.prog 6 #[.agg #[.int .i64 r, .int .i64 p], .int .i64 n] w fun e w' => e = .returned (.bool true) ∧ Ext w w' := by
  have HTF := Lib.hid hTF
  have hz : Hid (codeErr r p = 4) := by show _ = _; rw [codeErr, if_pos (by omega)]
  have hq : Hid (codeF r p = 0) := by show _ = _; rw [codeF, hz.out]; rfl
  have he : Hid (entryErr n = 4) := by show _ = _; rw [entryErr, if_pos (.inl h2)]
  clear hTF
  go_enter Tryd.func6, Tryd.ntmps6
  go_wp2_with fail
  refine HTF.out.mono ?_
  rintro e w1 ⟨rfl, X1⟩
  have c0 : w1.cell? ⟨w.heap.size, 0, none⟩ = some (.int .i64 r) := X1.cell (box_cell0 _ _ _ _)
  have c1 : w1.cell? ⟨w.heap.size, 1, none⟩ = some (.int .i64 p) := X1.cell (box_cell1 _ _ _ _)
  go_wp2_with fail
  refine (code_any r p _ _ _ hq hz).mono ?_
  rintro e w2 ⟨rfl, X2⟩
  have d0 := X2.cell c0
  have d1 := X2.cell c1
  clear c0 c1
  go_wp2_with fail
  refine (entry_any n _).mono ?_
  rintro e w3 ⟨a, b, rfl, X3, hab⟩
  rw [he.out]
  have e0 := X3.cell d0
  have e1 := X3.cell d1
  clear d0 d1
  have f0 := ((Ext.refl w3).alloc (.cells #[.int .i64 a, .int .i64 b] 49)).cell e0
  have f1 := ((Ext.refl w3).alloc (.cells #[.int .i64 a, .int .i64 b] 49)).cell e1
  have hab2 : a = 0 ∧ b = 0 := by
    rcases hab with ⟨_, h⟩ | ⟨h, _⟩
    · exact h
    · rw [he.out] at h; cases h
  obtain ⟨rfl, rfl⟩ := hab2
  clear hab
  go_wp2_with fail
  go_ret
  exact ⟨rfl, (((((Ext.refl w).alloc _).trans X1).trans X2).trans X3).alloc _⟩
set_option maxHeartbeats 800000 in
set_option maxRecDepth 100000 in
theorem codes_1_1 (r p n : Int) (w : World) (hTF : TFact (w.alloc (.cells #[.int .i64 r, .int .i64 p] 49))) (h1 : 1 ≤ r) (h1b : 3 < r) (h2 : 0 ≤ n) (h2b : 9999 < n) :
    Calls Tryd.prog 6 #[.agg #[.int .i64 r, .int .i64 p], .int .i64 n] w fun e w' => e = .returned (.bool true) ∧ Ext w w' := by
  have HTF := Lib.hid hTF
  have hz : Hid (codeErr r p = 4) := by show _ = _; rw [codeErr, if_pos (by omega)]
  have hq : Hid (codeF r p = 0) := by show _ = _; rw [codeF, hz.out]; rfl
  have he : Hid (entryErr n = 4) := by show _ = _; rw [entryErr, if_pos (.inr h2b)]
  clear hTF
  go_enter Tryd.func6, Tryd.ntmps6
  go_wp2_with fail
  refine HTF.out.mono ?_
  rintro e w1 ⟨rfl, X1⟩
  have c0 : w1.cell? ⟨w.heap.size, 0, none⟩ = some (.int .i64 r) := X1.cell (box_cell0 _ _ _ _)
  have c1 : w1.cell? ⟨w.heap.size, 1, none⟩ = some (.int .i64 p) := X1.cell (box_cell1 _ _ _ _)
  go_wp2_with fail
  refine (code_any r p _ _ _ hq hz).mono ?_
  rintro e w2 ⟨rfl, X2⟩
  have d0 := X2.cell c0
  have d1 := X2.cell c1
  clear c0 c1
  go_wp2_with fail
  refine (entry_any n _).mono ?_
  rintro e w3 ⟨a, b, rfl, X3, hab⟩
  rw [he.out]
  have e0 := X3.cell d0
  have e1 := X3.cell d1
  clear d0 d1
  have f0 := ((Ext.refl w3).alloc (.cells #[.int .i64 a, .int .i64 b] 49)).cell e0
  have f1 := ((Ext.refl w3).alloc (.cells #[.int .i64 a, .int .i64 b] 49)).cell e1
  have hab2 : a = 0 ∧ b = 0 := by
    rcases hab with ⟨_, h⟩ | ⟨h, _⟩
    · exact h
    · rw [he.out] at h; cases h
  obtain ⟨rfl, rfl⟩ := hab2
  clear hab
  go_wp2_with fail
  go_ret
  exact ⟨rfl, (((((Ext.refl w).alloc _).trans X1).trans X2).trans X3).alloc _⟩
set_option maxHeartbeats 800000 in
set_option maxRecDepth 100000 in
theorem codes_2_0 (r p n : Int) (w : World) (hTF : TFact (w.alloc (.cells #[.int .i64 r, .int .i64 p] 49))) (h1 : 1 ≤ r) (h1b : r ≤ 3) (h1c : p < 0) (h2 : n < 0) :
    Calls Tryd.prog 6 #[.agg #[.int .i64 r, .int .i64 p], .int .i64 n] w fun e w' => e = .returned (.bool true) ∧ Ext w w' := by
  have HTF := Lib.hid hTF
  have hz : Hid (codeErr r p = 4) := by show _ = _; rw [codeErr, if_pos (by omega)]
  have hq : Hid (codeF r p = 0) := by show _ = _; rw [codeF, hz.out]; rfl
  have he : Hid (entryErr n = 4) := by show _ = _; rw [entryErr, if_pos (.inl h2)]
  clear hTF
  go_enter Tryd.func6, Tryd.ntmps6
  go_wp2_with fail
  refine HTF.out.mono ?_
  rintro e w1 ⟨rfl, X1⟩
  have c0 : w1.cell? ⟨w.heap.size, 0, none⟩ = some (.int .i64 r) := X1.cell (box_cell0 _ _ _ _)
  have c1 : w1.cell? ⟨w.heap.size, 1, none⟩ = some (.int .i64 p) := X1.cell (box_cell1 _ _ _ _)
  go_wp2_with fail
  refine (code_any r p _ _ _ hq hz).mono ?_
  rintro e w2 ⟨rfl, X2⟩
  have d0 := X2.cell c0
  have d1 := X2.cell c1
  clear c0 c1
  go_wp2_with fail
  refine (entry_any n _).mono ?_
  rintro e w3 ⟨a, b, rfl, X3, hab⟩
  rw [he.out]
  have e0 := X3.cell d0
  have e1 := X3.cell d1
  clear d0 d1
  have f0 := ((Ext.refl w3).alloc (.cells #[.int .i64 a, .int .i64 b] 49)).cell e0
  have f1 := ((Ext.refl w3).alloc (.cells #[.int .i64 a, .int .i64 b] 49)).cell e1
  have hab2 : a = 0 ∧ b = 0 := by
    rcases hab with ⟨_, h⟩ | ⟨h, _⟩
    · exact h
    · rw [he.out] at h; cases h
  obtain ⟨rfl, rfl⟩ := hab2
  clear hab
  go_wp2_with fail
  go_ret
  exact ⟨rfl, (((((Ext.refl w).alloc _).trans X1).trans X2).trans X3).alloc _⟩
set_option maxHeartbeats 800000 in
set_option maxRecDepth 100000 in
theorem codes_2_1 (r p n : Int) (w : World) (hTF : TFact (w.alloc (.cells #[.int .i64 r, .int .i64 p] 49))) (h1 : 1 ≤ r) (h1b : r ≤ 3) (h1c : p < 0) (h2 : 0 ≤ n) (h2b : 9999 < n) :
    Calls Tryd.prog 6 #[.agg #[.int .i64 r, .int .i64 p], .int .i64 n] w fun e w' => e = .returned (.bool true) ∧ Ext w w' := by
  have HTF := Lib.hid hTF
  have hz : Hid (codeErr r p = 4) := by show _ = _; rw [codeErr, if_pos (by omega)]
  have hq : Hid (codeF r p = 0) := by show _ = _; rw [codeF, hz.out]; rfl
  have he : Hid (entryErr n = 4) := by show _ = _; rw [entryErr, if_pos (.inr h2b)]
  clear hTF
  go_enter Tryd.func6, Tryd.ntmps6
  go_wp2_with fail
  refine HTF.out.mono ?_
  rintro e w1 ⟨rfl, X1⟩
  have c0 : w1.cell? ⟨w.heap.size, 0, none⟩ = some (.int .i64 r) := X1.cell (box_cell0 _ _ _ _)
  have c1 : w1.cell? ⟨w.heap.size, 1, none⟩ = some (.int .i64 p) := X1.cell (box_cell1 _ _ _ _)
  go_wp2_with fail
  refine (code_any r p _ _ _ hq hz).mono ?_
  rintro e w2 ⟨rfl, X2⟩
  have d0 := X2.cell c0
  have d1 := X2.cell c1
  clear c0 c1
  go_wp2_with fail
  refine (entry_any n _).mono ?_
  rintro e w3 ⟨a, b, rfl, X3, hab⟩
  rw [he.out]
  have e0 := X3.cell d0
  have e1 := X3.cell d1
  clear d0 d1
  have f0 := ((Ext.refl w3).alloc (.cells #[.int .i64 a, .int .i64 b] 49)).cell e0
  have f1 := ((Ext.refl w3).alloc (.cells #[.int .i64 a, .int .i64 b] 49)).cell e1
  have hab2 : a = 0 ∧ b = 0 := by
    rcases hab with ⟨_, h⟩ | ⟨h, _⟩
    · exact h
    · rw [he.out] at h; cases h
  obtain ⟨rfl, rfl⟩ := hab2
  clear hab
  go_wp2_with fail
  go_ret
  exact ⟨rfl, (((((Ext.refl w).alloc _).trans X1).trans X2).trans X3).alloc _⟩
set_option maxHeartbeats 800000 in
set_option maxRecDepth 100000 in
theorem codes_3_0 (r p n : Int) (w : World) (hTF : TFact (w.alloc (.cells #[.int .i64 r, .int .i64 p] 49))) (h1 : 1 ≤ r) (h1b : r ≤ 3) (h1c : 0 ≤ p) (h1d : 3333 < p) (h2 : n < 0) :
    Calls Tryd.prog 6 #[.agg #[.int .i64 r, .int .i64 p], .int .i64 n] w fun e w' => e = .returned (.bool true) ∧ Ext w w' := by
  have HTF := Lib.hid hTF
  have hz : Hid (codeErr r p = 4) := by show _ = _; rw [codeErr, if_pos (by omega)]
  have hq : Hid (codeF r p = 0) := by show _ = _; rw [codeF, hz.out]; rfl
  have he : Hid (entryErr n = 4) := by show _ = _; rw [entryErr, if_pos (.inl h2)]
  clear hTF
  go_enter Tryd.func6, Tryd.ntmps6
  go_wp2_with fail
  refine HTF.out.mono ?_
  rintro e w1 ⟨rfl, X1⟩
  have c0 : w1.cell? ⟨w.heap.size, 0, none⟩ = some (.int .i64 r) := X1.cell (box_cell0 _ _ _ _)
  have c1 : w1.cell? ⟨w.heap.size, 1, none⟩ = some (.int .i64 p) := X1.cell (box_cell1 _ _ _ _)
  go_wp2_with fail
  refine (code_any r p _ _ _ hq hz).mono ?_
  rintro e w2 ⟨rfl, X2⟩
  have d0 := X2.cell c0
  have d1 := X2.cell c1
  clear c0 c1
  go_wp2_with fail
  refine (entry_any n _).mono ?_
  rintro e w3 ⟨a, b, rfl, X3, hab⟩
  rw [he.out]
  have e0 := X3.cell d0
  have e1 := X3.cell d1
  clear d0 d1
  have f0 := ((Ext.refl w3).alloc (.cells #[.int .i64 a, .int .i64 b] 49)).cell e0
  have f1 := ((Ext.refl w3).alloc (.cells #[.int .i64 a, .int .i64 b] 49)).cell e1
  have hab2 : a = 0 ∧ b = 0 := by
    rcases hab with ⟨_, h⟩ | ⟨h, _⟩
    · exact h
    · rw [he.out] at h; cases h
  obtain ⟨rfl, rfl⟩ := hab2
  clear hab
  go_wp2_with fail
  go_ret
  exact ⟨rfl, (((((Ext.refl w).alloc _).trans X1).trans X2).trans X3).alloc _⟩
set_option maxHeartbeats 800000 in
set_option maxRecDepth 100000 in
theorem codes_3_1 (r p n : Int) (w : World) (hTF : TFact (w.alloc (.cells #[.int .i64 r, .int .i64 p] 49))) (h1 : 1 ≤ r) (h1b : r ≤ 3) (h1c : 0 ≤ p) (h1d : 3333 < p) (h2 : 0 ≤ n) (h2b : 9999 < n) :
    Calls Tryd.prog 6 #[.agg #[.int .i64 r, .int .i64 p], .int .i64 n] w fun e w' => e = .returned (.bool true) ∧ Ext w w' := by
  have HTF := Lib.hid hTF
  have hz : Hid (codeErr r p = 4) := by show _ = _; rw [codeErr, if_pos (by omega)]
  have hq : Hid (codeF r p = 0) := by show _ = _; rw [codeF, hz.out]; rfl
  have he : Hid (entryErr n = 4) := by show _ = _; rw [entryErr, if_pos (.inr h2b)]
  clear hTF
  go_enter Tryd.func6, Tryd.ntmps6
  go_wp2_with fail
  refine HTF.out.mono ?_
  rintro e w1 ⟨rfl, X1⟩
  have c0 : w1.cell? ⟨w.heap.size, 0, none⟩ = some (.int .i64 r) := X1.cell (box_cell0 _ _ _ _)
  have c1 : w1.cell? ⟨w.heap.size, 1, none⟩ = some (.int .i64 p) := X1.cell (box_cell1 _ _ _ _)
  go_wp2_with fail
  refine (code_any r p _ _ _ hq hz).mono ?_
  rintro e w2 ⟨rfl, X2⟩
  have d0 := X2.cell c0
  have d1 := X2.cell c1
  clear c0 c1
  go_wp2_with fail
  refine (entry_any n _).mono ?_
  rintro e w3 ⟨a, b, rfl, X3, hab⟩
  rw [he.out]
  have e0 := X3.cell d0
  have e1 := X3.cell d1
  clear d0 d1
  have f0 := ((Ext.refl w3).alloc (.cells #[.int .i64 a, .int .i64 b] 49)).cell e0
  have f1 := ((Ext.refl w3).alloc (.cells #[.int .i64 a, .int .i64 b] 49)).cell e1
  have hab2 : a = 0 ∧ b = 0 := by
    rcases hab with ⟨_, h⟩ | ⟨h, _⟩
    · exact h
    · rw [he.out] at h; cases h
  obtain ⟨rfl, rfl⟩ := hab2
  clear hab
  go_wp2_with fail
  go_ret
  exact ⟨rfl, (((((Ext.refl w).alloc _).trans X1).trans X2).trans X3).alloc _⟩
set_option maxHeartbeats 800000 in
set_option maxRecDepth 100000 in
theorem codes_4_0 (r p n : Int) (w : World) (hTF : TFact (w.alloc (.cells #[.int .i64 r, .int .i64 p] 49))) (h1 : 1 ≤ r) (h1b : r ≤ 3) (h1c : 0 ≤ p) (h1d : p ≤ 3333) (h1e : 10000 < 3 * p + r) (h2 : n < 0) :
    Calls Tryd.prog 6 #[.agg #[.int .i64 r, .int .i64 p], .int .i64 n] w fun e w' => e = .returned (.bool true) ∧ Ext w w' := by
  have HTF := Lib.hid hTF
  have hz : Hid (codeErr r p = 4) := by show _ = _; rw [codeErr, if_pos (by omega)]
  have hq : Hid (codeF r p = 0) := by show _ = _; rw [codeF, hz.out]; rfl
  have he : Hid (entryErr n = 4) := by show _ = _; rw [entryErr, if_pos (.inl h2)]
  clear hTF
  go_enter Tryd.func6, Tryd.ntmps6
  go_wp2_with fail
  refine HTF.out.mono ?_
  rintro e w1 ⟨rfl, X1⟩
  have c0 : w1.cell? ⟨w.heap.size, 0, none⟩ = some (.int .i64 r) := X1.cell (box_cell0 _ _ _ _)
  have c1 : w1.cell? ⟨w.heap.size, 1, none⟩ = some (.int .i64 p) := X1.cell (box_cell1 _ _ _ _)
  go_wp2_with fail
  refine (code_any r p _ _ _ hq hz).mono ?_
  rintro e w2 ⟨rfl, X2⟩
  have d0 := X2.cell c0
  have d1 := X2.cell c1
  clear c0 c1
  go_wp2_with fail
  refine (entry_any n _).mono ?_
  rintro e w3 ⟨a, b, rfl, X3, hab⟩
  rw [he.out]
  have e0 := X3.cell d0
  have e1 := X3.cell d1
  clear d0 d1
  have f0 := ((Ext.refl w3).alloc (.cells #[.int .i64 a, .int .i64 b] 49)).cell e0
  have f1 := ((Ext.refl w3).alloc (.cells #[.int .i64 a, .int .i64 b] 49)).cell e1
  have hab2 : a = 0 ∧ b = 0 := by
    rcases hab with ⟨_, h⟩ | ⟨h, _⟩
    · exact h
    · rw [he.out] at h; cases h
  obtain ⟨rfl, rfl⟩ := hab2
  clear hab
  go_wp2_with fail
  go_ret
  exact ⟨rfl, (((((Ext.refl w).alloc _).trans X1).trans X2).trans X3).alloc _⟩
set_option maxHeartbeats 800000 in
set_option maxRecDepth 100000 in
theorem codes_4_1 (r p n : Int) (w : World) (hTF : TFact (w.alloc (.cells #[.int .i64 r, .int .i64 p] 49))) (h1 : 1 ≤ r) (h1b : r ≤ 3) (h1c : 0 ≤ p) (h1d : p ≤ 3333) (h1e : 10000 < 3 * p + r) (h2 : 0 ≤ n) (h2b : 9999 < n) :
    Calls Tryd.prog 6 #[.agg #[.int .i64 r, .int .i64 p], .int .i64 n] w fun e w' => e = .returned (.bool true) ∧ Ext w w' := by
  have HTF := Lib.hid hTF
  have hz : Hid (codeErr r p = 4) := by show _ = _; rw [codeErr, if_pos (by omega)]
  have hq : Hid (codeF r p = 0) := by show _ = _; rw [codeF, hz.out]; rfl
  have he : Hid (entryErr n = 4) := by show _ = _; rw [entryErr, if_pos (.inr h2b)]
  clear hTF
  go_enter Tryd.func6, Tryd.ntmps6
  go_wp2_with fail
  refine HTF.out.mono ?_
  rintro e w1 ⟨rfl, X1⟩
  have c0 : w1.cell? ⟨w.heap.size, 0, none⟩ = some (.int .i64 r) := X1.cell (box_cell0 _ _ _ _)
  have c1 : w1.cell? ⟨w.heap.size, 1, none⟩ = some (.int .i64 p) := X1.cell (box_cell1 _ _ _ _)
  go_wp2_with fail
  refine (code_any r p _ _ _ hq hz).mono ?_
  rintro e w2 ⟨rfl, X2⟩
  have d0 := X2.cell c0
  have d1 := X2.cell c1
  clear c0 c1
  go_wp2_with fail
  refine (entry_any n _).mono ?_
  rintro e w3 ⟨a, b, rfl, X3, hab⟩
  rw [he.out]
  have e0 := X3.cell d0
  have e1 := X3.cell d1
  clear d0 d1
  have f0 := ((Ext.refl w3).alloc (.cells #[.int .i64 a, .int .i64 b] 49)).cell e0
  have f1 := ((Ext.refl w3).alloc (.cells #[.int .i64 a, .int .i64 b] 49)).cell e1
  have hab2 : a = 0 ∧ b = 0 := by
    rcases hab with ⟨_, h⟩ | ⟨h, _⟩
    · exact h
    · rw [he.out] at h; cases h
  obtain ⟨rfl, rfl⟩ := hab2
  clear hab
  go_wp2_with fail
  go_ret
  exact ⟨rfl, (((((Ext.refl w).alloc _).trans X1).trans X2).trans X3).alloc _⟩
end Go.Proofs.YtllhgkacbpgemaaDoor
