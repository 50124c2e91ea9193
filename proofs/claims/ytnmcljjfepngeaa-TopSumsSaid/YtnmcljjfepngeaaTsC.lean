/- walks of package nimsum: Heap.Next -/
import Derived.Test.YtnmcljjfepngeaaTsB
namespace Go.Proofs.Ytnmcljjfepngeaa
open Go.RowKit
set_option linter.unusedVariables false

theorem ts_info_int : (Try.prog.info? 3).map (fun i => (i.zero, i.size, i.bytes)) = some (some (.int .i64 0), 1, 8) := by kernel_rfl
theorem ts_ei_ints : EI Try.prog 48 3 (.int .i64 0) 1 8 := ⟨Try.underlying48, info_parts ts_info_int, rfl, by decide⟩
/-- the first k heaps after a move -/
def hNk (n k : Nat) : List Nat := (List.range k).map fun j => n - (j + 1)
theorem hNk_succ (n k : Nat) : hNk n (k + 1) = hNk n k ++ [n - (k + 1)] := by unfold hNk; rw [List.range_succ, List.map_append]; rfl
theorem hNk_length (n k : Nat) : (hNk n k).length = k := by unfold hNk; simp
theorem hN_eq (m n : Nat) : hN m n = hNk n (if m = 0 then n else min n m) := rfl

set_option maxHeartbeats 3200000 in
set_option maxRecDepth 100000 in
theorem heapNext_any (m n : Nat) (w : World) (hn : n ≤ 20000) (hm : m ≤ 20000) :
    Calls Try.prog 34 #[.agg #[.int .i64 m], .int .i64 n] w fun e w' => ∃ u, e = .returned u ∧ RowOf encI w' u (hN m n) ∧ Ext w w' := by
  rw [hN_eq]
  obtain ⟨L, hL⟩ : ∃ L, (if m = 0 then n else min n m) = L := ⟨_, rfl⟩
  rw [hL]
  have hLn : L ≤ n := by rw [← hL]; split <;> omega
  have hLm : m = 0 ∨ L ≤ m := by rw [← hL]; split <;> omega
  have hLx : m = 0 ∧ L = n ∨ 0 < m ∧ (L = n ∨ L = m) := by rw [← hL]; split <;> omega
  clear hL
  have hg : ¬ (20000 : Int) < (n : Int) := by omega
  obtain ⟨wo, rfl⟩ : ∃ wo : World, wo = w := ⟨_, rfl⟩
  obtain ⟨W1, hW1⟩ : ∃ W1, wo.alloc (.cells #[.int .i64 (m : Int)] 26) = W1 := ⟨_, rfl⟩
  have X1 : Ext wo W1 := by rw [← hW1]; exact (Ext.refl wo).alloc _
  obtain ⟨T7, hT7⟩ : ∃ T7, wo.heap.size = T7 := ⟨_, rfl⟩
  have y0 : W1.cell? ⟨T7, 0, none⟩ = some (.int .i64 m) := by rw [← hW1, ← hT7]; simp [go_sem]
  have hB1 : T7 ≤ W1.heap.size := by rw [← hT7]; exact X1.size
  have HX1 := Lib.hid X1
  go_enter Try.func34, Try.ntmps34
  go_wp2_with fail
  go_loopw [5, 6] (fun ov kv wr => ∃ (k : Nat), k ≤ L ∧ kv = .int .i64 (k + 1 : Nat) ∧ Hid (wr.ownsRow W1.heap.size 3 1 ov k ((hNk n k).map encI)) ∧ Ext W1 wr) (fun _ kv _ => L + 1 - (intOf kv).toNat)
  case atStart => exact ⟨0, Nat.zero_le _, rfl, World.ownsRow_nil _ _ _ _, Ext.refl _⟩
  case round =>
    obtain ⟨k, hk, rfl, HO, X⟩ := hrel
    have z0 := X.cell y0
    by_cases hlt : k < L
    · have b1 : ((k + 1 : Nat) : Int) ≤ (n : Int) := by omega
      have hl1 : k + 1 ≤ 17592186044416 := by omega
      have hl2 : (k + 1) * 8 ≤ 140737488355328 := by omega
      have hbk : W1.heap.size ≤ wr.heap.size := X.size
      have hv : IntKind.i64.wrap ((n : Int) - ((k + 1 : Nat) : Int)) = ((n - (k + 1) : Nat) : Int) := by rw [IntKind.wrap_i64]; omega
      rcases hLm with h0 | h0
      · subst h0
        go_wp2_with (first | (at_builtin; go_must (refine wp_app1 rfl rfl ts_ei_ints HO.out rfl rfl (by simp) rfl hl1 hl2 (by simpa using hbk) ?_); intro v' w' hown hgrew))
        go_roundw
        case rel => exact ⟨k + 1, by omega, by go_num, by show World.ownsRow _ _ _ _ _ _ _; rw [hNk_succ, List.map_append, show List.map encI [n - (k + 1)] = [Value.int .i64 ((n : Int) - ((k : Int) + 1))] from by rw [List.map_singleton]; unfold encI; congr 2; omega]; exact hown, hgrew.extNew X HO.out (Nat.le_refl _)⟩
        case measure => simp [intOf]; omega
      · have b2 : ((k + 1 : Nat) : Int) ≤ (m : Int) := by omega
        have b3 : ¬ (m : Int) ≤ 0 := by omega
        go_wp2_with (first | (at_builtin; go_must (refine wp_app1 rfl rfl ts_ei_ints HO.out rfl rfl (by simp) rfl hl1 hl2 (by simpa using hbk) ?_); intro v' w' hown hgrew))
        go_roundw
        case rel => exact ⟨k + 1, by omega, by go_num, by show World.ownsRow _ _ _ _ _ _ _; rw [hNk_succ, List.map_append, show List.map encI [n - (k + 1)] = [Value.int .i64 ((n : Int) - ((k : Int) + 1))] from by rw [List.map_singleton]; unfold encI; congr 2; omega]; exact hown, hgrew.extNew X HO.out (Nat.le_refl _)⟩
        case measure => simp [intOf]; omega
    · have hkL : k = L := by omega
      subst hkL
      have hl3 : k ≤ 17592186044416 := by omega
      rcases hLx with ⟨h0, h1⟩ | ⟨h0, h1⟩
      · subst h0; subst h1
        have b1 : ¬ ((k + 1 : Nat) : Int) ≤ (k : Int) := by omega
        go_wp2_with fail
        go_ret
        exact ⟨_, rfl, own_rowOf HO.out hl3, HX1.out.trans X⟩
      · by_cases h2 : k = n
        · subst h2
          have b1 : ¬ ((k + 1 : Nat) : Int) ≤ (k : Int) := by omega
          go_wp2_with fail
          go_ret
          exact ⟨_, rfl, own_rowOf HO.out hl3, HX1.out.trans X⟩
        · have h3 : k = m := by omega
          subst h3
          have b1 : ((k + 1 : Nat) : Int) ≤ (n : Int) := by omega
          have b2 : ¬ ((k + 1 : Nat) : Int) ≤ (k : Int) := by omega
          have b3 : ¬ (k : Int) ≤ 0 := by omega
          go_wp2_with fail
          go_ret
          exact ⟨_, rfl, own_rowOf HO.out hl3, HX1.out.trans X⟩
end Go.Proofs.Ytnmcljjfepngeaa
