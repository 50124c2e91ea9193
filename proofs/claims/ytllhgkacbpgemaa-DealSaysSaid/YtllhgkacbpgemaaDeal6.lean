/- walks of the package deal: Cheat, New, Missing -/
import Derived.Test.YtllhgkacbpgemaaDeal5
namespace Go.Proofs.Ytllhgkacbpgemaa
open Go.RowKit

set_option maxHeartbeats 800000 in
set_option maxRecDepth 100000 in
theorem cheat_none (B tb pb : Nat) (n : Int) (l : List PV) (cheat : Int) (w : World) (hv : Tab w B tb pb n l cheat) (h : cheat < 0) :
    Calls Try.prog 58 #[.pointer (some ⟨tb, 0, none⟩)] w fun e w' => e = .returned (.tuple #[.int .i64 0, .int .i64 8]) ∧ w = w' := by
  have c2 := hv.c2
  clear hv
  go_enter Try.func58, Try.ntmps58
  go_wp2_with fail
  go_ret2
  exact ⟨rfl, rfl⟩

set_option maxHeartbeats 800000 in
set_option maxRecDepth 100000 in
theorem cheat_some (B tb pb : Nat) (n : Int) (l : List PV) (cheat : Int) (w : World) (hv : Tab w B tb pb n l cheat) (h : 0 ≤ cheat) :
    Calls Try.prog 58 #[.pointer (some ⟨tb, 0, none⟩)] w fun e w' => e = .returned (.tuple #[.int .i64 cheat, .int .i64 0]) ∧ w = w' := by
  have c2 := hv.c2
  clear hv
  go_enter Try.func58, Try.ntmps58
  go_wp2_with fail
  go_ret2
  exact ⟨rfl, rfl⟩

/-- a player of whom nothing is known -/
def pv0 : PV := ⟨false, false, 0, none, 0, 0⟩

theorem mk_players1 (W : World) : (Instr.makeSlice 76 (.int .i64 1) (.int .i64 1)).run Try.prog W = .ok (.slice (some ⟨W.heap.size, 0, none⟩) 1 1) (W.alloc (.cells (encP (List.replicate 1 pv0)).toArray 83)) := by kernel_rfl
theorem mk_players2 (W : World) : (Instr.makeSlice 76 (.int .i64 2) (.int .i64 2)).run Try.prog W = .ok (.slice (some ⟨W.heap.size, 0, none⟩) 2 2) (W.alloc (.cells (encP (List.replicate 2 pv0)).toArray 83)) := by kernel_rfl
theorem mk_players3 (W : World) : (Instr.makeSlice 76 (.int .i64 3) (.int .i64 3)).run Try.prog W = .ok (.slice (some ⟨W.heap.size, 0, none⟩) 3 3) (W.alloc (.cells (encP (List.replicate 3 pv0)).toArray 83)) := by kernel_rfl
theorem mk_players4 (W : World) : (Instr.makeSlice 76 (.int .i64 4) (.int .i64 4)).run Try.prog W = .ok (.slice (some ⟨W.heap.size, 0, none⟩) 4 4) (W.alloc (.cells (encP (List.replicate 4 pv0)).toArray 83)) := by kernel_rfl
theorem mk_players5 (W : World) : (Instr.makeSlice 76 (.int .i64 5) (.int .i64 5)).run Try.prog W = .ok (.slice (some ⟨W.heap.size, 0, none⟩) 5 5) (W.alloc (.cells (encP (List.replicate 5 pv0)).toArray 83)) := by kernel_rfl
theorem mk_players6 (W : World) : (Instr.makeSlice 76 (.int .i64 6) (.int .i64 6)).run Try.prog W = .ok (.slice (some ⟨W.heap.size, 0, none⟩) 6 6) (W.alloc (.cells (encP (List.replicate 6 pv0)).toArray 83)) := by kernel_rfl

theorem mk_players (k : Nat) (h1 : 1 ≤ k) (h6 : k ≤ 6) (W : World) : (Instr.makeSlice 76 (.int .i64 k) (.int .i64 k)).run Try.prog W = .ok (.slice (some ⟨W.heap.size, 0, none⟩) k k) (W.alloc (.cells (encP (List.replicate k pv0)).toArray 83)) := by
  have : k = 1 ∨ k = 2 ∨ k = 3 ∨ k = 4 ∨ k = 5 ∨ k = 6 := by omega
  rcases this with rfl | rfl | rfl | rfl | rfl | rfl
  · exact mk_players1 W
  · exact mk_players2 W
  · exact mk_players3 W
  · exact mk_players4 W
  · exact mk_players5 W
  · exact mk_players6 W

set_option maxHeartbeats 800000 in
set_option maxRecDepth 100000 in
theorem new_err (k n : Int) (w : World) (h : k < 1 ∨ 6 < k ∨ n < 0 ∨ 52 < n) :
    Calls Try.prog 29 #[.int .i64 k, .int .i64 n] w fun e w' => e = .returned (.tuple #[.pointer none, .int .i64 4]) ∧ w = w' := by
  have h' : k < 1 ∨ (1 ≤ k ∧ 6 < k) ∨ (1 ≤ k ∧ k ≤ 6 ∧ n < 0) ∨ (1 ≤ k ∧ k ≤ 6 ∧ 0 ≤ n ∧ 52 < n) := by omega
  clear h
  rcases h' with h | ⟨h1, h2⟩ | ⟨h1, h2, h3⟩ | ⟨h1, h2, h3, h4⟩
  all_goals
    go_enter Try.func29, Try.ntmps29
    go_wp2_with fail
    go_ret2
    exact ⟨rfl, rfl⟩

set_option maxHeartbeats 800000 in
set_option maxRecDepth 100000 in
theorem new_ok (k n : Nat) (w : World) (h1 : 1 ≤ k) (h6 : k ≤ 6) (h52 : n ≤ 52) :
    Calls Try.prog 29 #[.int .i64 k, .int .i64 n] w fun e w' => ∃ tb, e = .returned (.tuple #[.pointer (some ⟨tb, 0, none⟩), .int .i64 0]) ∧ (∃ pb, Tab w' w.heap.size tb pb n (List.replicate k pv0) (-1)) ∧ Ext w w' := by
  have hmk := mk_players k h1 h6
  have hk1 : (1 : Int) ≤ k := by omega
  have hk6 : (k : Int) ≤ 6 := by omega
  have hn1 : (n : Int) ≤ 52 := by omega
  have hrow := Lib.hid (World.ownsRow_lit (base := w.heap.size) (e := 83) (size := 4) w (encP (List.replicate k pv0)).toArray k (Nat.le_refl _) (by unfold maxLen; omega) (by simp [encP_len]))
  go_enter Try.func29, Try.ntmps29
  go_wp2_with fail
  go_ret2
  have hx1 : Ext w (w.alloc (.cells (encP (List.replicate k pv0)).toArray 83)) := (Ext.refl w).alloc _
  have hl : (List.replicate k pv0).length = k := List.length_replicate
  refine ⟨_, rfl, ⟨w.heap.size, ?_, ?_, ?_, ?_⟩, (hx1.alloc _)⟩
  · have h := World.ownsRow_lit (base := w.heap.size) (e := 78) (size := 3) (w.alloc (.cells (encP (List.replicate k pv0)).toArray 83)) #[.int .i64 n, .slice (some ⟨w.heap.size, 0, none⟩) k k, .int .i64 (-1)] 1 hx1.size (by decide) rfl
    rw [hl]
    simpa using h
  · rw [hl]
    have h := own_ext hrow.out ((Ext.refl _).alloc (.cells #[.int .i64 n, .slice (some ⟨w.heap.size, 0, none⟩) k k, .int .i64 (-1)] 78))
    simpa using h
  · simp
  · rw [hl]; exact h6
end Go.Proofs.Ytllhgkacbpgemaa
