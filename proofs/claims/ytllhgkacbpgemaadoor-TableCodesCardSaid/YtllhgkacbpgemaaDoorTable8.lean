/- walk of the law TableCodes, over tableFact's contract: one leaf as a trial -/
import Derived.Test.YtllhgkacbpgemaaDoorTable7
namespace Go.Proofs.YtllhgkacbpgemaaDoor
open Go.RowKit
set_option linter.unusedVariables false

theorem box_cell0 (w : World) (T : TypeId) (x y : Value) : (w.alloc (.cells #[x, y] T)).cell? ⟨w.heap.size, 0, none⟩ = some x := by
  have h : (w.alloc (.cells #[x, y] T)).heap[w.heap.size]? = some (.cells #[x, y] T) := Array.getElem?_push_size
  simp only [World.cell?, h]
  rfl
theorem box_cell1 (w : World) (T : TypeId) (x y : Value) : (w.alloc (.cells #[x, y] T)).cell? ⟨w.heap.size, 1, none⟩ = some y := by
  have h : (w.alloc (.cells #[x, y] T)).heap[w.heap.size]? = some (.cells #[x, y] T) := Array.getElem?_push_size
  simp only [World.cell?, h]
  rfl

set_option maxHeartbeats 800000 in
set_option maxRecDepth 100000 in
theorem codes_a1 (r p n : Int) (w : World) (hTF : TFact (w.alloc (.cells #[.int .i64 r, .int .i64 p] 49))) (h1 : r < 1) (h2 : n < 0) :
    Calls Tryd.prog 6 #[.agg #[.int .i64 r, .int .i64 p], .int .i64 n] w fun e w' => e = .returned (.bool true) ∧ Ext w w' := by
  have HTF := Lib.hid hTF
  have hz : Hid (codeErr r p = 4) := by show _ = _; rw [codeErr, if_pos (.inl h1)]
  have hq : Hid (codeF r p = 0) := by show _ = _; rw [codeF, hz.out]; rfl
  have he : Hid (entryErr n = 4) := by show _ = _; rw [entryErr, if_pos (.inl h2)]
  clear hTF
  go_enter Tryd.func6, Tryd.ntmps6
  go_wp2_with fail
  refine HTF.out.mono ?_
  rintro e w1 ⟨rfl, X1⟩
  have c0 : w1.cell? ⟨w.heap.size, 0, none⟩ = some (.int .i64 r) := X1.cell (box_cell0 _ _ _ _)
  have c1 : w1.cell? ⟨w.heap.size, 1, none⟩ = some (.int .i64 p) := X1.cell (box_cell1 _ _ _ _)
  go_wp2_with fail
  refine (code_any r p _ _ _ hq hz).mono ?_
  rintro e w2 ⟨rfl, X2⟩
  have d0 := X2.cell c0
  have d1 := X2.cell c1
  clear c0 c1
  go_wp2_with fail
  refine (entry_any n _).mono ?_
  rintro e w3 ⟨a, b, rfl, X3, hab⟩
  rw [he.out]
  have e0 := X3.cell d0
  have e1 := X3.cell d1
  clear d0 d1
  have f0 := ((Ext.refl w3).alloc (.cells #[.int .i64 a, .int .i64 b] 49)).cell e0
  have f1 := ((Ext.refl w3).alloc (.cells #[.int .i64 a, .int .i64 b] 49)).cell e1
  have hab2 : a = 0 ∧ b = 0 := by
    rcases hab with ⟨_, h⟩ | ⟨h, _⟩
    · exact h
    · rw [he.out] at h; cases h
  obtain ⟨rfl, rfl⟩ := hab2
  clear hab
  go_wp2_with fail
  go_ret
  exact ⟨rfl, (((((Ext.refl w).alloc _).trans X1).trans X2).trans X3).alloc _⟩
end Go.Proofs.YtllhgkacbpgemaaDoor
