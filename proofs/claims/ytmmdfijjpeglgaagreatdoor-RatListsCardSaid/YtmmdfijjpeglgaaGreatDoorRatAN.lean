/- the law RatLists: its walks -/
import Derived.Test.YtmmdfijjpeglgaaGreatDoorRatAJ
import Derived.Test.YtmmdfijjpeglgaaGreatDoorRatAL
import Derived.Test.YtmmdfijjpeglgaaGreatDoorRatAM
import Derived.Test.YtmmdfijjpeglgaaGreatDoorWgt
namespace Go.Proofs.YtmmdfijjpeglgaaGreatDoor
open Go.RowKit
set_option linter.unusedVariables false

theorem lit_rows_at (w : World) (e : TypeId) {v : Value} {l : List ByteArray} (h : Strs w v l) (k : Nat) (hk : k = w.heap.size) :
    Rows Value.string (w.alloc (.cells #[v] e)) (.slice (some ⟨k, 0, none⟩) 1 1) [l] := by
  subst hk
  refine ⟨[v], ⟨_, _, rfl, ⟨fun e => (by cases e), Nat.le_refl _⟩, by simp, fun _ e => (by cases e), fun i u hu => ?_⟩, rfl, fun i u xs a b => ?_⟩
  · match i, hu with
    | 0, hu =>
      simp only [List.getElem?_cons_zero, Option.some.injEq] at hu
      subst hu
      exact ⟨_, _, rfl, by simp [go_sem]⟩
    | i + 1, hu => simp at hu
  · match i, a, b with
    | 0, a, b =>
      simp only [List.getElem?_cons_zero, Option.some.injEq] at a b
      subst a
      subst b
      exact h.ext ((Ext.refl w).alloc _)
    | i + 1, a, b => simp at a

set_option maxHeartbeats 3200000 in
set_option maxRecDepth 100000 in
theorem ratLists_err (ao : Option Addr) (c : Nat) (l : List ByteArray) (p : Int) (w : World) (HV : Hid (Strs w (.slice ao l.length c) l)) (hp : (p != 0) = true) (hpp : (p == p) = true) (hli : (l.length : Int) ≤ 256)
    (H0 : Hid (∀ W, Ext w W → Calls Tryz.prog 15 #[] W fun e w' => e = .returned (.bool true) ∧ Ext W w'))
    (H1 : Hid (∀ v W, Rows Value.string W v [l] → Calls Tryz.prog 40 #[v] W fun e w' => ∃ n, e = .returned (.int .i64 n) ∧ Ext W w'))
    (H2 : Hid (∀ W, Ext w W → Calls Tryz.prog 41 #[.slice ao l.length c] W fun e w' => e = .returned (.tuple #[.string ⟨#[]⟩, .int .i64 p]) ∧ Ext W w'))
    (H3 : Hid (∀ W, Ext w W → Calls Tryz.prog 42 #[.slice ao l.length c] W fun e w' => e = .returned (.tuple #[.int .i64 0, .int .i64 p]) ∧ Ext W w'))
    (H4 : Hid (∀ W, Ext w W → Calls Tryz.prog 43 #[.slice ao l.length c] W fun e w' => e = .returned (.tuple #[.slice none 0 0, .int .i64 p]) ∧ Ext W w'))
    (H5 : Hid (∀ W, Ext w W → Calls Tryz.prog 44 #[.slice ao l.length c] W fun e w' => e = .returned (.int .i64 p) ∧ Ext W w'))
    (H6 : Hid (∀ W, Ext w W → Calls Tryz.prog 19 #[.slice ao l.length c] W fun e w' => e = .returned (.int .i64 p) ∧ Ext W w')) :
    Calls Tryz.prog 8 #[.slice ao l.length c] w fun e w' => e = .returned (.bool true) ∧ Ext w w' := by
  have E0 := Ext.refl w
  go_enter Tryz.func8, Tryz.ntmps8
  go_wp2_with fail
  refine (H0.out _ E0).mono ?_
  rintro e w1 ⟨rfl, X1⟩
  have E1 := E0.trans X1
  clear E0 X1
  go_wp2_with fail
  refine (H1.out _ _ (by exact lit_rows_at _ _ (HV.out.ext E1) _ (by first | rfl | simp))).mono ?_
  rintro e w2 ⟨n, rfl, X2⟩
  have E2 := (E1.alloc (.cells #[.slice ao l.length c] 52)).trans X2
  clear E1 X2
  by_cases hn : (6000 : Int) < n
  · go_wp2_with fail
    go_ret
    exact ⟨rfl, E2⟩
  go_wp2_with fail
  refine (H2.out _ E2).mono ?_
  rintro e w3 ⟨rfl, X3⟩
  have E3 := E2.trans X3
  clear E2 X3
  go_wp2_with fail
  refine (H3.out _ E3).mono ?_
  rintro e w4 ⟨rfl, X4⟩
  have E4 := E3.trans X4
  clear E3 X4
  go_wp2_with fail
  refine (H4.out _ E4).mono ?_
  rintro e w5 ⟨rfl, X5⟩
  have E5 := E4.trans X5
  clear E4 X5
  go_wp2_with fail
  refine (H5.out _ E5).mono ?_
  rintro e w6 ⟨rfl, X6⟩
  have E6 := E5.trans X6
  clear E5 X6
  go_wp2_with fail
  refine (H6.out _ E6).mono ?_
  rintro e w7 ⟨rfl, X7⟩
  have E7 := E6.trans X7
  clear E6 X7
  go_wp2_with fail
  go_ret
  exact ⟨by first | rfl | simp, E7⟩

set_option maxHeartbeats 3200000 in
set_option maxRecDepth 100000 in
theorem ratLists_large (ao : Option Addr) (c : Nat) (l : List ByteArray) (p : Int) (w : World) (HV : Hid (Strs w (.slice ao l.length c) l)) (hli : (256 : Int) < (l.length : Int))
    (H0 : Hid (∀ W, Ext w W → Calls Tryz.prog 15 #[] W fun e w' => e = .returned (.bool true) ∧ Ext W w'))
    (H1 : Hid (∀ v W, Rows Value.string W v [l] → Calls Tryz.prog 40 #[v] W fun e w' => ∃ n, e = .returned (.int .i64 n) ∧ Ext W w'))
    (H2 : Hid (∀ W, Ext w W → Calls Tryz.prog 41 #[.slice ao l.length c] W fun e w' => e = .returned (.tuple #[.string ⟨#[]⟩, .int .i64 2]) ∧ Ext W w'))
    (H3 : Hid (∀ W, Ext w W → Calls Tryz.prog 42 #[.slice ao l.length c] W fun e w' => e = .returned (.tuple #[.int .i64 0, .int .i64 2]) ∧ Ext W w'))
    (H4 : Hid (∀ W, Ext w W → Calls Tryz.prog 43 #[.slice ao l.length c] W fun e w' => e = .returned (.tuple #[.slice none 0 0, .int .i64 2]) ∧ Ext W w'))
    (H5 : Hid (∀ W, Ext w W → Calls Tryz.prog 44 #[.slice ao l.length c] W fun e w' => e = .returned (.int .i64 2) ∧ Ext W w'))
    (H6 : Hid (∀ W, Ext w W → Calls Tryz.prog 19 #[.slice ao l.length c] W fun e w' => e = .returned (.int .i64 p) ∧ Ext W w')) :
    Calls Tryz.prog 8 #[.slice ao l.length c] w fun e w' => e = .returned (.bool true) ∧ Ext w w' := by
  have E0 := Ext.refl w
  go_enter Tryz.func8, Tryz.ntmps8
  go_wp2_with fail
  refine (H0.out _ E0).mono ?_
  rintro e w1 ⟨rfl, X1⟩
  have E1 := E0.trans X1
  clear E0 X1
  go_wp2_with fail
  refine (H1.out _ _ (by exact lit_rows_at _ _ (HV.out.ext E1) _ (by first | rfl | simp))).mono ?_
  rintro e w2 ⟨n, rfl, X2⟩
  have E2 := (E1.alloc (.cells #[.slice ao l.length c] 52)).trans X2
  clear E1 X2
  by_cases hn : (6000 : Int) < n
  · go_wp2_with fail
    go_ret
    exact ⟨rfl, E2⟩
  go_wp2_with fail
  refine (H2.out _ E2).mono ?_
  rintro e w3 ⟨rfl, X3⟩
  have E3 := E2.trans X3
  clear E2 X3
  go_wp2_with fail
  refine (H3.out _ E3).mono ?_
  rintro e w4 ⟨rfl, X4⟩
  have E4 := E3.trans X4
  clear E3 X4
  go_wp2_with fail
  refine (H4.out _ E4).mono ?_
  rintro e w5 ⟨rfl, X5⟩
  have E5 := E4.trans X5
  clear E4 X5
  go_wp2_with fail
  refine (H5.out _ E5).mono ?_
  rintro e w6 ⟨rfl, X6⟩
  have E6 := E5.trans X6
  clear E5 X6
  go_wp2_with fail
  refine (H6.out _ E6).mono ?_
  rintro e w7 ⟨rfl, X7⟩
  have E7 := E6.trans X7
  clear E6 X7
  go_wp2_with fail
  go_ret
  exact ⟨by first | rfl | simp, E7⟩

set_option maxHeartbeats 3200000 in
set_option maxRecDepth 100000 in
theorem ratLists_none (ao : Option Addr) (c : Nat) (l : List ByteArray)  (w : World) (HV : Hid (Strs w (.slice ao l.length c) l)) (hl : ((l.length : Int) == 0) = true) (hli : (l.length : Int) ≤ 256)
    (H0 : Hid (∀ W, Ext w W → Calls Tryz.prog 15 #[] W fun e w' => e = .returned (.bool true) ∧ Ext W w'))
    (H1 : Hid (∀ v W, Rows Value.string W v [l] → Calls Tryz.prog 40 #[v] W fun e w' => ∃ n, e = .returned (.int .i64 n) ∧ Ext W w'))
    (H2 : Hid (∀ W, Ext w W → Calls Tryz.prog 41 #[.slice ao l.length c] W fun e w' => e = .returned (.tuple #[.string ⟨#[48]⟩, .int .i64 0]) ∧ Ext W w'))
    (H3 : Hid (∀ W, Ext w W → Calls Tryz.prog 42 #[.slice ao l.length c] W fun e w' => e = .returned (.tuple #[.int .i64 0, .int .i64 8]) ∧ Ext W w'))
    (H4 : Hid (∀ W, Ext w W → Calls Tryz.prog 43 #[.slice ao l.length c] W fun e w' => e = .returned (.tuple #[.slice none 0 0, .int .i64 18]) ∧ Ext W w'))
    (H5 : Hid (∀ W, Ext w W → Calls Tryz.prog 44 #[.slice ao l.length c] W fun e w' => e = .returned (.int .i64 3) ∧ Ext W w'))
    (H6 : Hid (∀ W, Ext w W → Calls Tryz.prog 19 #[.slice ao l.length c] W fun e w' => e = .returned (.int .i64 0) ∧ Ext W w')) :
    Calls Tryz.prog 8 #[.slice ao l.length c] w fun e w' => e = .returned (.bool true) ∧ Ext w w' := by
  have E0 := Ext.refl w
  go_enter Tryz.func8, Tryz.ntmps8
  go_wp2_with fail
  refine (H0.out _ E0).mono ?_
  rintro e w1 ⟨rfl, X1⟩
  have E1 := E0.trans X1
  clear E0 X1
  go_wp2_with fail
  refine (H1.out _ _ (by exact lit_rows_at _ _ (HV.out.ext E1) _ (by first | rfl | simp))).mono ?_
  rintro e w2 ⟨n, rfl, X2⟩
  have E2 := (E1.alloc (.cells #[.slice ao l.length c] 52)).trans X2
  clear E1 X2
  by_cases hn : (6000 : Int) < n
  · go_wp2_with fail
    go_ret
    exact ⟨rfl, E2⟩
  go_wp2_with fail
  refine (H2.out _ E2).mono ?_
  rintro e w3 ⟨rfl, X3⟩
  have E3 := E2.trans X3
  clear E2 X3
  go_wp2_with fail
  refine (H3.out _ E3).mono ?_
  rintro e w4 ⟨rfl, X4⟩
  have E4 := E3.trans X4
  clear E3 X4
  go_wp2_with fail
  refine (H4.out _ E4).mono ?_
  rintro e w5 ⟨rfl, X5⟩
  have E5 := E4.trans X5
  clear E4 X5
  go_wp2_with fail
  refine (H5.out _ E5).mono ?_
  rintro e w6 ⟨rfl, X6⟩
  have E6 := E5.trans X6
  clear E5 X6
  go_wp2_with fail
  refine (H6.out _ E6).mono ?_
  rintro e w7 ⟨rfl, X7⟩
  have E7 := E6.trans X7
  clear E6 X7
  go_wp2_with fail
  go_ret
  exact ⟨by first | rfl | simp, E7⟩

set_option maxHeartbeats 3200000 in
set_option maxRecDepth 100000 in
theorem ratLists_long (ao : Option Addr) (c : Nat) (l : List ByteArray) (T : ByteArray) (e1 b o : Int) (w : World) (HV : Hid (Strs w (.slice ao l.length c) l)) (hl : ((l.length : Int) == 0) = false) (hli : (l.length : Int) ≤ 256)
    (H0 : Hid (∀ W, Ext w W → Calls Tryz.prog 15 #[] W fun e w' => e = .returned (.bool true) ∧ Ext W w'))
    (H1 : Hid (∀ v W, Rows Value.string W v [l] → Calls Tryz.prog 40 #[v] W fun e w' => ∃ n, e = .returned (.int .i64 n) ∧ Ext W w'))
    (H2 : Hid (∀ W, Ext w W → Calls Tryz.prog 41 #[.slice ao l.length c] W fun e w' => e = .returned (.tuple #[.string T, .int .i64 e1]) ∧ Ext W w'))
    (H3 : Hid (∀ W, Ext w W → Calls Tryz.prog 42 #[.slice ao l.length c] W fun e w' => e = .returned (.tuple #[.int .i64 b, .int .i64 0]) ∧ Ext W w'))
    (H4 : Hid (∀ W, Ext w W → Calls Tryz.prog 43 #[.slice ao l.length c] W fun e w' => ∃ u g, e = .returned (.tuple #[u, .int .i64 g]) ∧ Ext W w'))
    (H5 : Hid (∀ W, Ext w W → Calls Tryz.prog 44 #[.slice ao l.length c] W fun e w' => e = .returned (.int .i64 o) ∧ Ext W w'))
    (H6 : Hid (∀ W, Ext w W → Calls Tryz.prog 19 #[.slice ao l.length c] W fun e w' => e = .returned (.int .i64 0) ∧ Ext W w'))
    (H7 : Hid (∀ W, Ext w W → Calls Tryz.prog 45 #[.slice ao l.length c] W fun e w' => e = .returned (.bool false) ∧ Ext W w')) :
    Calls Tryz.prog 8 #[.slice ao l.length c] w fun e w' => e = .returned (.bool true) ∧ Ext w w' := by
  have E0 := Ext.refl w
  go_enter Tryz.func8, Tryz.ntmps8
  go_wp2_with fail
  refine (H0.out _ E0).mono ?_
  rintro e w1 ⟨rfl, X1⟩
  have E1 := E0.trans X1
  clear E0 X1
  go_wp2_with fail
  refine (H1.out _ _ (by exact lit_rows_at _ _ (HV.out.ext E1) _ (by first | rfl | simp))).mono ?_
  rintro e w2 ⟨n, rfl, X2⟩
  have E2 := (E1.alloc (.cells #[.slice ao l.length c] 52)).trans X2
  clear E1 X2
  by_cases hn : (6000 : Int) < n
  · go_wp2_with fail
    go_ret
    exact ⟨rfl, E2⟩
  go_wp2_with fail
  refine (H2.out _ E2).mono ?_
  rintro e w3 ⟨rfl, X3⟩
  have E3 := E2.trans X3
  clear E2 X3
  go_wp2_with fail
  refine (H3.out _ E3).mono ?_
  rintro e w4 ⟨rfl, X4⟩
  have E4 := E3.trans X4
  clear E3 X4
  go_wp2_with fail
  refine (H4.out _ E4).mono ?_
  rintro e w5 ⟨u, g, rfl, X5⟩
  have E5 := E4.trans X5
  clear E4 X5
  go_wp2_with fail
  refine (H5.out _ E5).mono ?_
  rintro e w6 ⟨rfl, X6⟩
  have E6 := E5.trans X6
  clear E5 X6
  go_wp2_with fail
  refine (H6.out _ E6).mono ?_
  rintro e w7 ⟨rfl, X7⟩
  have E7 := E6.trans X7
  clear E6 X7
  go_wp2_with fail
  refine (H7.out _ E7).mono ?_
  rintro e w8 ⟨rfl, X8⟩
  have E8 := E7.trans X8
  clear E7 X8
  go_wp2_with fail
  go_ret
  exact ⟨by first | rfl | simp, E8⟩

set_option maxHeartbeats 3200000 in
set_option maxRecDepth 100000 in
theorem ratLists_neg (ao : Option Addr) (c : Nat) (l : List ByteArray)  (w : World) (HV : Hid (Strs w (.slice ao l.length c) l)) (qs : List Rat) (B : Nat) (hl : ((l.length : Int) == 0) = false) (hli : (l.length : Int) ≤ 256) (hl0 : 0 < l.length) (HC : Hid (CellsOf Value.string w ao l)) (HQL : Hid (qs.length = l.length)) (HB : Hid (Top qs 0 l.length B))
    (HQ : Hid (∀ (i : Nat) (s : ByteArray), l[i]? = some s → s ∈ l ∧ qs.drop i = ratOf s :: qs.drop (i + 1) ∧ qs.getD i 0 = ratOf s))
    (HADD : Hid (∀ (s : ByteArray) (i : Nat) W, s ∈ l → i ≤ l.length → Calls Tryz.prog 27 #[.string s, .string (ratT (sumQ (qs.drop i)))] W fun e w' => e = .returned (.string (ratT (ratOf s + sumQ (qs.drop i)))) ∧ Ext W w'))
    (HSGN : Hid (∀ (s : ByteArray) W, s ∈ l → Calls Tryz.prog 38 #[.string s] W fun e w' => e = .returned (.int .i64 (ratOf s).num.sign) ∧ Ext W w'))
    (HCMP : Hid (∀ (s s2 : ByteArray) W, s ∈ l → s2 ∈ l → Calls Tryz.prog 37 #[.string s, .string s2] W fun e w' => e = .returned (.int .i64 (cmpQ (ratOf s) (ratOf s2))) ∧ Ext W w')) (han : anyQ qs = true)
    (H0 : Hid (∀ W, Ext w W → Calls Tryz.prog 15 #[] W fun e w' => e = .returned (.bool true) ∧ Ext W w'))
    (H1 : Hid (∀ v W, Rows Value.string W v [l] → Calls Tryz.prog 40 #[v] W fun e w' => ∃ n, e = .returned (.int .i64 n) ∧ Ext W w'))
    (H2 : Hid (∀ W, Ext w W → Calls Tryz.prog 41 #[.slice ao l.length c] W fun e w' => e = .returned (.tuple #[.string (ratT (sumQ qs)), .int .i64 0]) ∧ Ext W w'))
    (H3 : Hid (∀ W, Ext w W → Calls Tryz.prog 42 #[.slice ao l.length c] W fun e w' => e = .returned (.tuple #[.int .i64 B, .int .i64 0]) ∧ Ext W w'))
    (H4 : Hid (∀ W, Ext w W → Calls Tryz.prog 43 #[.slice ao l.length c] W fun e w' => e = .returned (.tuple #[.slice none 0 0, .int .i64 4]) ∧ Ext W w'))
    (H5 : Hid (∀ W, Ext w W → Calls Tryz.prog 44 #[.slice ao l.length c] W fun e w' => e = .returned (.int .i64 4) ∧ Ext W w'))
    (H6 : Hid (∀ W, Ext w W → Calls Tryz.prog 19 #[.slice ao l.length c] W fun e w' => e = .returned (.int .i64 0) ∧ Ext W w'))
    (H7 : Hid (∀ W, Ext w W → Calls Tryz.prog 45 #[.slice ao l.length c] W fun e w' => e = .returned (.bool true) ∧ Ext W w')) :
    Calls Tryz.prog 8 #[.slice ao l.length c] w fun e w' => e = .returned (.bool true) ∧ Ext w w' := by
  have E0 := Ext.refl w
  go_enter Tryz.func8, Tryz.ntmps8
  go_wp2_with fail
  refine (H0.out _ E0).mono ?_
  rintro e w1 ⟨rfl, X1⟩
  have E1 := E0.trans X1
  clear E0 X1
  go_wp2_with fail
  refine (H1.out _ _ (by exact lit_rows_at _ _ (HV.out.ext E1) _ (by first | rfl | simp))).mono ?_
  rintro e w2 ⟨n, rfl, X2⟩
  have E2 := (E1.alloc (.cells #[.slice ao l.length c] 52)).trans X2
  clear E1 X2
  by_cases hn : (6000 : Int) < n
  · go_wp2_with fail
    go_ret
    exact ⟨rfl, E2⟩
  go_wp2_with fail
  refine (H2.out _ E2).mono ?_
  rintro e w3 ⟨rfl, X3⟩
  have E3 := E2.trans X3
  clear E2 X3
  go_wp2_with fail
  refine (H3.out _ E3).mono ?_
  rintro e w4 ⟨rfl, X4⟩
  have E4 := E3.trans X4
  clear E3 X4
  go_wp2_with fail
  refine (H4.out _ E4).mono ?_
  rintro e w5 ⟨rfl, X5⟩
  have E5 := E4.trans X5
  clear E4 X5
  go_wp2_with fail
  refine (H5.out _ E5).mono ?_
  rintro e w6 ⟨rfl, X6⟩
  have E6 := E5.trans X6
  clear E5 X6
  go_wp2_with fail
  refine (H6.out _ E6).mono ?_
  rintro e w7 ⟨rfl, X7⟩
  have E7 := E6.trans X7
  clear E6 X7
  go_wp2_with fail
  refine (H7.out _ E7).mono ?_
  rintro e w8 ⟨rfl, X8⟩
  have E8 := E7.trans X8
  clear E7 X8
  go_wp2_with fail
  go_loopw [11, 12, 13, 14] (fun sv bv nv kv wr => ∃ (j b : Nat), j ≤ l.length ∧ b < l.length ∧ kv = .int .i64 ((j : Int) - 1) ∧ sv = .string (ratT (sumQ (qs.drop j))) ∧ bv = .int .i64 b ∧ nv = .bool (anyQ (qs.drop j)) ∧ Hid ((j = l.length ∧ b + 1 = l.length) ∨ Top qs j l.length b) ∧ Ext w8 wr) (fun _ _ _ kv _ => ((intOf kv) + 1).toNat)
  case atStart => exact ⟨l.length, l.length - 1, Nat.le_refl _, by omega, rfl, by rw [← HQL.out, List.drop_length]; exact congrArg Value.string ratT_zero.symm, by rw [Int.natCast_sub (by omega)]; rfl, by rw [← HQL.out, List.drop_length]; rfl, Lib.hid (Or.inl ⟨rfl, by omega⟩), Ext.refl _⟩
  case round =>
    obtain ⟨j, b, hj, hb, rfl, rfl, rfl, rfl, HT, X⟩ := hrel
    by_cases hlt : 0 < j
    · obtain ⟨i, rfl⟩ : ∃ i, j = i + 1 := ⟨j - 1, by omega⟩
      rw [show ((i + 1 : Nat) : Int) - 1 = (i : Int) by omega]
      have hi0 : (0 : Int) ≤ (i : Int) := by omega
      have hil : i < l.length := by omega
      have hili : (i : Int) < (l.length : Int) := by omega
      have hbli : (b : Int) < (l.length : Int) := by omega
      have hbi0 : (0 : Int) ≤ (b : Int) := by omega
      obtain ⟨s, d1, d2, d3⟩ := get_lt hil
      obtain ⟨s2, f1, f2, f3⟩ := get_lt hb
      obtain ⟨g, off, rfl, hc0⟩ := (HC.out.ext (E8.trans X)).at d1
      have hcell : wr.cell? ⟨g, off + i, none⟩ = some (.string s) := hc0
      have hcell2 : wr.cell? ⟨g, off + b, none⟩ = some (.string s2) := (HC.out.ext (E8.trans X)).at' f1
      obtain ⟨q1, q2, q3⟩ := HQ.out i s d1.out
      obtain ⟨p1, p2, p3⟩ := HQ.out b s2 f1.out
      have HA := Lib.hid (fun W => HADD.out s (i + 1) W q1 (by omega))
      have HG := Lib.hid (fun W => HSGN.out s W q1)
      have HM := Lib.hid (fun W => HCMP.out s s2 W q1 p1)
      have hdrop : qs.drop i = ratOf s :: qs.drop (i + 1) := q2
      have hsum : ratOf s + sumQ (qs.drop (i + 1)) = sumQ (qs.drop i) := by rw [hdrop, sumQ]
      have HAN : Hid (anyQ (qs.drop i) = (decide ((ratOf s).num < 0) || anyQ (qs.drop (i + 1)))) := by rw [hdrop]; rfl
      have hgd : qs.getD i 0 = ratOf s := q3
      have hgb : qs.getD b 0 = ratOf s2 := p3
      rw [hsum] at HA
      have HSG : Hid (decide ((ratOf s).num < 0) = decide ((ratOf s).num.sign < 0)) := by show _ = _; rw [decide_eq_decide]; exact Int.sign_neg_iff.symm
      have HTN : Hid (0 ≤ cmpQ (ratOf s) (ratOf s2) → Top qs i l.length i) := fun h => by
        rcases HT.out with ⟨h1, h2⟩ | h1
        · rw [show l.length = i + 1 from h1.symm]; exact Top.one qs i
        · exact h1.down' (by rw [hgd, hgb]; exact h)
      have HTB : Hid (¬ 0 ≤ cmpQ (ratOf s) (ratOf s2) → Top qs i l.length b) := fun h => by
        rcases HT.out with ⟨h1, h2⟩ | h1
        · exfalso
          have hbi : b = i := by omega
          subst hbi
          have hss : s2 = s := by have a := d1.out; have b := f1.out; rw [a] at b; exact (Option.some.inj b).symm
          subst hss
          apply h
          rw [cmpQ_ge]
          exact Rat.le_refl
        · exact h1.down (by rw [hgd, hgb]; exact h)
      clear hdrop hsum hgd hgb HT q1 q2 q3 p1 p2 p3 hlt hc0 f2 f3 d2 d3 hil hj
      obtain ⟨nn, hnn⟩ : ∃ nn, anyQ (qs.drop i) = nn := ⟨_, rfl⟩
      rw [hnn] at HAN
      have HNN := Lib.hid hnn
      clear hnn
      generalize anyQ (qs.drop (i + 1)) = no at *
      generalize ratT (sumQ (qs.drop (i + 1))) = S1 at *
      obtain ⟨S2, hS2⟩ : ∃ S2, ratT (sumQ (qs.drop i)) = S2 := ⟨_, rfl⟩
      rw [hS2] at HA
      have HS2 := Lib.hid hS2
      clear hS2
      generalize cmpQ (ratOf s) (ratOf s2) = z at *
      generalize decide ((ratOf s).num < 0) = yb at *
      generalize (ratOf s).num.sign = y at *
      go_wp2_with fail
      refine (HA.out _).mono ?_
      rintro e w9 ⟨rfl, X9⟩
      have hcell := X9.cell hcell
      have hcell2 := X9.cell hcell2
      have XA := X.trans X9
      clear X X9
      cases no
      · by_cases hy : y < 0
        · obtain rfl : yb = true := by rw [HSG.out]; exact decide_eq_true hy
          obtain rfl : nn = true := by rw [HAN.out]; rfl
          go_wp2_with fail
          refine (HG.out _).mono ?_
          rintro e wz ⟨rfl, X11⟩
          have hcell := X11.cell hcell
          have hcell2 := X11.cell hcell2
          have XA := XA.trans X11
          clear X11
          go_wp2_with fail
          go_region_held3 (fun w' => w'.cell? ⟨g, off + i, none⟩ = some (.string s) ∧ w'.cell? ⟨g, off + b, none⟩ = some (.string s2))
              (first | exact ⟨hcell, hcell2⟩ | exact ⟨X10.cell hcell, X10.cell hcell2⟩ | go_keep)
              ((go_at_call 37; refine (HM.out _).mono ?_; rintro e w10 ⟨rfl, Y10⟩; have X10 : Ext wz w10 := (Ext.refl wz).drew.trans Y10))
          all_goals
            have XN := XA.trans X10
            by_cases hz : 0 ≤ z
            · have HTOP := HTN.out (by omega)
              clear HTN HTB
              go_wp2_with fail
              go_roundw
              case rel => exact ⟨i, i, by omega, by omega, by go_num, by rw [HS2.out], rfl, by first | (rw [HNN.out]; done) | (rw [HNN.out]; exact congrArg Value.bool (decide_eq_false (by omega))), Lib.hid (Or.inr HTOP), XN⟩
              case measure => simp [intOf] <;> omega
            · have HTOP := HTB.out (by omega)
              clear HTN HTB
              go_wp2_with fail
              go_roundw
              case rel => exact ⟨i, b, by omega, by omega, by go_num, by rw [HS2.out], rfl, by first | (rw [HNN.out]; done) | (rw [HNN.out]; exact congrArg Value.bool (decide_eq_false (by omega))), Lib.hid (Or.inr HTOP), XN⟩
              case measure => simp [intOf] <;> omega
        · obtain rfl : yb = false := by rw [HSG.out]; exact decide_eq_false hy
          obtain rfl : nn = false := by rw [HAN.out]; rfl
          go_wp2_with fail
          refine (HG.out _).mono ?_
          rintro e wz ⟨rfl, X11⟩
          have hcell := X11.cell hcell
          have hcell2 := X11.cell hcell2
          have XA := XA.trans X11
          clear X11
          go_wp2_with fail
          go_region_held3 (fun w' => w'.cell? ⟨g, off + i, none⟩ = some (.string s) ∧ w'.cell? ⟨g, off + b, none⟩ = some (.string s2))
              (first | exact ⟨hcell, hcell2⟩ | exact ⟨X10.cell hcell, X10.cell hcell2⟩ | go_keep)
              ((go_at_call 37; refine (HM.out _).mono ?_; rintro e w10 ⟨rfl, Y10⟩; have X10 : Ext wz w10 := (Ext.refl wz).drew.trans Y10))
          all_goals
            have XN := XA.trans X10
            by_cases hz : 0 ≤ z
            · have HTOP := HTN.out (by omega)
              clear HTN HTB
              go_wp2_with fail
              go_roundw
              case rel => exact ⟨i, i, by omega, by omega, by go_num, by rw [HS2.out], rfl, by first | (rw [HNN.out]; done) | (rw [HNN.out]; exact congrArg Value.bool (decide_eq_false (by omega))), Lib.hid (Or.inr HTOP), XN⟩
              case measure => simp [intOf] <;> omega
            · have HTOP := HTB.out (by omega)
              clear HTN HTB
              go_wp2_with fail
              go_roundw
              case rel => exact ⟨i, b, by omega, by omega, by go_num, by rw [HS2.out], rfl, by first | (rw [HNN.out]; done) | (rw [HNN.out]; exact congrArg Value.bool (decide_eq_false (by omega))), Lib.hid (Or.inr HTOP), XN⟩
              case measure => simp [intOf] <;> omega
      · obtain rfl : nn = true := by rw [HAN.out]; exact Bool.or_true _
        obtain ⟨wz, rfl⟩ : ∃ wz : World, wz = w9 := ⟨_, rfl⟩
        go_wp2_with fail
        go_region_held3 (fun w' => w'.cell? ⟨g, off + i, none⟩ = some (.string s) ∧ w'.cell? ⟨g, off + b, none⟩ = some (.string s2))
            (first | exact ⟨hcell, hcell2⟩ | exact ⟨X10.cell hcell, X10.cell hcell2⟩ | go_keep)
            ((go_at_call 37; refine (HM.out _).mono ?_; rintro e w10 ⟨rfl, Y10⟩; have X10 : Ext wz w10 := (Ext.refl wz).drew.trans Y10))
        all_goals
          have XN := XA.trans X10
          by_cases hz : 0 ≤ z
          · have HTOP := HTN.out (by omega)
            clear HTN HTB
            go_wp2_with fail
            go_roundw
            case rel => exact ⟨i, i, by omega, by omega, by go_num, by rw [HS2.out], rfl, by first | (rw [HNN.out]; done) | (rw [HNN.out]; exact congrArg Value.bool (decide_eq_false (by omega))), Lib.hid (Or.inr HTOP), XN⟩
            case measure => simp [intOf] <;> omega
          · have HTOP := HTB.out (by omega)
            clear HTN HTB
            go_wp2_with fail
            go_roundw
            case rel => exact ⟨i, b, by omega, by omega, by go_num, by rw [HS2.out], rfl, by first | (rw [HNN.out]; done) | (rw [HNN.out]; exact congrArg Value.bool (decide_eq_false (by omega))), Lib.hid (Or.inr HTOP), XN⟩
            case measure => simp [intOf] <;> omega
    · have hj0 : j = 0 := by omega
      subst hj0
      have hBb : b = B := by
        rcases HT.out with ⟨h1, h2⟩ | h1
        · omega
        · exact h1.unique HB.out
      subst hBb
      have XE := E8.trans X
      rw [List.drop_zero, show ((0 : Nat) : Int) - 1 = -1 from rfl]
      have htt : ((ratT (sumQ qs)).toList == (ratT (sumQ qs)).toList) = true := by simp
      have hbb : ((b : Int) == (b : Int)) = true := by simp
      rw [han]
      clear HB HQ HADD HSGN HCMP HT HQL HC HV hlt
      generalize ratT (sumQ qs) = ST at *
      go_wp2_with fail
      go_ret
      exact ⟨by first | rfl | simp, XE⟩

set_option maxHeartbeats 3200000 in
set_option maxRecDepth 100000 in
theorem ratLists_zero (ao : Option Addr) (c : Nat) (l : List ByteArray)  (w : World) (HV : Hid (Strs w (.slice ao l.length c) l)) (qs : List Rat) (B : Nat) (hl : ((l.length : Int) == 0) = false) (hli : (l.length : Int) ≤ 256) (hl0 : 0 < l.length) (HC : Hid (CellsOf Value.string w ao l)) (HQL : Hid (qs.length = l.length)) (HB : Hid (Top qs 0 l.length B))
    (HQ : Hid (∀ (i : Nat) (s : ByteArray), l[i]? = some s → s ∈ l ∧ qs.drop i = ratOf s :: qs.drop (i + 1) ∧ qs.getD i 0 = ratOf s))
    (HADD : Hid (∀ (s : ByteArray) (i : Nat) W, s ∈ l → i ≤ l.length → Calls Tryz.prog 27 #[.string s, .string (ratT (sumQ (qs.drop i)))] W fun e w' => e = .returned (.string (ratT (ratOf s + sumQ (qs.drop i)))) ∧ Ext W w'))
    (HSGN : Hid (∀ (s : ByteArray) W, s ∈ l → Calls Tryz.prog 38 #[.string s] W fun e w' => e = .returned (.int .i64 (ratOf s).num.sign) ∧ Ext W w'))
    (HCMP : Hid (∀ (s s2 : ByteArray) W, s ∈ l → s2 ∈ l → Calls Tryz.prog 37 #[.string s, .string s2] W fun e w' => e = .returned (.int .i64 (cmpQ (ratOf s) (ratOf s2))) ∧ Ext W w')) (han : anyQ qs = false) (hz0 : ((ratT (sumQ qs)).toList == [48]) = true)
    (H0 : Hid (∀ W, Ext w W → Calls Tryz.prog 15 #[] W fun e w' => e = .returned (.bool true) ∧ Ext W w'))
    (H1 : Hid (∀ v W, Rows Value.string W v [l] → Calls Tryz.prog 40 #[v] W fun e w' => ∃ n, e = .returned (.int .i64 n) ∧ Ext W w'))
    (H2 : Hid (∀ W, Ext w W → Calls Tryz.prog 41 #[.slice ao l.length c] W fun e w' => e = .returned (.tuple #[.string (ratT (sumQ qs)), .int .i64 0]) ∧ Ext W w'))
    (H3 : Hid (∀ W, Ext w W → Calls Tryz.prog 42 #[.slice ao l.length c] W fun e w' => e = .returned (.tuple #[.int .i64 B, .int .i64 0]) ∧ Ext W w'))
    (H4 : Hid (∀ W, Ext w W → Calls Tryz.prog 43 #[.slice ao l.length c] W fun e w' => e = .returned (.tuple #[.slice none 0 0, .int .i64 18]) ∧ Ext W w'))
    (H5 : Hid (∀ W, Ext w W → Calls Tryz.prog 44 #[.slice ao l.length c] W fun e w' => e = .returned (.int .i64 3) ∧ Ext W w'))
    (H6 : Hid (∀ W, Ext w W → Calls Tryz.prog 19 #[.slice ao l.length c] W fun e w' => e = .returned (.int .i64 0) ∧ Ext W w'))
    (H7 : Hid (∀ W, Ext w W → Calls Tryz.prog 45 #[.slice ao l.length c] W fun e w' => e = .returned (.bool true) ∧ Ext W w')) :
    Calls Tryz.prog 8 #[.slice ao l.length c] w fun e w' => e = .returned (.bool true) ∧ Ext w w' := by
  have E0 := Ext.refl w
  go_enter Tryz.func8, Tryz.ntmps8
  go_wp2_with fail
  refine (H0.out _ E0).mono ?_
  rintro e w1 ⟨rfl, X1⟩
  have E1 := E0.trans X1
  clear E0 X1
  go_wp2_with fail
  refine (H1.out _ _ (by exact lit_rows_at _ _ (HV.out.ext E1) _ (by first | rfl | simp))).mono ?_
  rintro e w2 ⟨n, rfl, X2⟩
  have E2 := (E1.alloc (.cells #[.slice ao l.length c] 52)).trans X2
  clear E1 X2
  by_cases hn : (6000 : Int) < n
  · go_wp2_with fail
    go_ret
    exact ⟨rfl, E2⟩
  go_wp2_with fail
  refine (H2.out _ E2).mono ?_
  rintro e w3 ⟨rfl, X3⟩
  have E3 := E2.trans X3
  clear E2 X3
  go_wp2_with fail
  refine (H3.out _ E3).mono ?_
  rintro e w4 ⟨rfl, X4⟩
  have E4 := E3.trans X4
  clear E3 X4
  go_wp2_with fail
  refine (H4.out _ E4).mono ?_
  rintro e w5 ⟨rfl, X5⟩
  have E5 := E4.trans X5
  clear E4 X5
  go_wp2_with fail
  refine (H5.out _ E5).mono ?_
  rintro e w6 ⟨rfl, X6⟩
  have E6 := E5.trans X6
  clear E5 X6
  go_wp2_with fail
  refine (H6.out _ E6).mono ?_
  rintro e w7 ⟨rfl, X7⟩
  have E7 := E6.trans X7
  clear E6 X7
  go_wp2_with fail
  refine (H7.out _ E7).mono ?_
  rintro e w8 ⟨rfl, X8⟩
  have E8 := E7.trans X8
  clear E7 X8
  go_wp2_with fail
  go_loopw [11, 12, 13, 14] (fun sv bv nv kv wr => ∃ (j b : Nat), j ≤ l.length ∧ b < l.length ∧ kv = .int .i64 ((j : Int) - 1) ∧ sv = .string (ratT (sumQ (qs.drop j))) ∧ bv = .int .i64 b ∧ nv = .bool (anyQ (qs.drop j)) ∧ Hid ((j = l.length ∧ b + 1 = l.length) ∨ Top qs j l.length b) ∧ Ext w8 wr) (fun _ _ _ kv _ => ((intOf kv) + 1).toNat)
  case atStart => exact ⟨l.length, l.length - 1, Nat.le_refl _, by omega, rfl, by rw [← HQL.out, List.drop_length]; exact congrArg Value.string ratT_zero.symm, by rw [Int.natCast_sub (by omega)]; rfl, by rw [← HQL.out, List.drop_length]; rfl, Lib.hid (Or.inl ⟨rfl, by omega⟩), Ext.refl _⟩
  case round =>
    obtain ⟨j, b, hj, hb, rfl, rfl, rfl, rfl, HT, X⟩ := hrel
    by_cases hlt : 0 < j
    · obtain ⟨i, rfl⟩ : ∃ i, j = i + 1 := ⟨j - 1, by omega⟩
      rw [show ((i + 1 : Nat) : Int) - 1 = (i : Int) by omega]
      have hi0 : (0 : Int) ≤ (i : Int) := by omega
      have hil : i < l.length := by omega
      have hili : (i : Int) < (l.length : Int) := by omega
      have hbli : (b : Int) < (l.length : Int) := by omega
      have hbi0 : (0 : Int) ≤ (b : Int) := by omega
      obtain ⟨s, d1, d2, d3⟩ := get_lt hil
      obtain ⟨s2, f1, f2, f3⟩ := get_lt hb
      obtain ⟨g, off, rfl, hc0⟩ := (HC.out.ext (E8.trans X)).at d1
      have hcell : wr.cell? ⟨g, off + i, none⟩ = some (.string s) := hc0
      have hcell2 : wr.cell? ⟨g, off + b, none⟩ = some (.string s2) := (HC.out.ext (E8.trans X)).at' f1
      obtain ⟨q1, q2, q3⟩ := HQ.out i s d1.out
      obtain ⟨p1, p2, p3⟩ := HQ.out b s2 f1.out
      have HA := Lib.hid (fun W => HADD.out s (i + 1) W q1 (by omega))
      have HG := Lib.hid (fun W => HSGN.out s W q1)
      have HM := Lib.hid (fun W => HCMP.out s s2 W q1 p1)
      have hdrop : qs.drop i = ratOf s :: qs.drop (i + 1) := q2
      have hsum : ratOf s + sumQ (qs.drop (i + 1)) = sumQ (qs.drop i) := by rw [hdrop, sumQ]
      have HAN : Hid (anyQ (qs.drop i) = (decide ((ratOf s).num < 0) || anyQ (qs.drop (i + 1)))) := by rw [hdrop]; rfl
      have hgd : qs.getD i 0 = ratOf s := q3
      have hgb : qs.getD b 0 = ratOf s2 := p3
      rw [hsum] at HA
      have HSG : Hid (decide ((ratOf s).num < 0) = decide ((ratOf s).num.sign < 0)) := by show _ = _; rw [decide_eq_decide]; exact Int.sign_neg_iff.symm
      have HTN : Hid (0 ≤ cmpQ (ratOf s) (ratOf s2) → Top qs i l.length i) := fun h => by
        rcases HT.out with ⟨h1, h2⟩ | h1
        · rw [show l.length = i + 1 from h1.symm]; exact Top.one qs i
        · exact h1.down' (by rw [hgd, hgb]; exact h)
      have HTB : Hid (¬ 0 ≤ cmpQ (ratOf s) (ratOf s2) → Top qs i l.length b) := fun h => by
        rcases HT.out with ⟨h1, h2⟩ | h1
        · exfalso
          have hbi : b = i := by omega
          subst hbi
          have hss : s2 = s := by have a := d1.out; have b := f1.out; rw [a] at b; exact (Option.some.inj b).symm
          subst hss
          apply h
          rw [cmpQ_ge]
          exact Rat.le_refl
        · exact h1.down (by rw [hgd, hgb]; exact h)
      clear hdrop hsum hgd hgb HT q1 q2 q3 p1 p2 p3 hlt hc0 f2 f3 d2 d3 hil hj
      obtain ⟨nn, hnn⟩ : ∃ nn, anyQ (qs.drop i) = nn := ⟨_, rfl⟩
      rw [hnn] at HAN
      have HNN := Lib.hid hnn
      clear hnn
      generalize anyQ (qs.drop (i + 1)) = no at *
      generalize ratT (sumQ (qs.drop (i + 1))) = S1 at *
      obtain ⟨S2, hS2⟩ : ∃ S2, ratT (sumQ (qs.drop i)) = S2 := ⟨_, rfl⟩
      rw [hS2] at HA
      have HS2 := Lib.hid hS2
      clear hS2
      generalize cmpQ (ratOf s) (ratOf s2) = z at *
      generalize decide ((ratOf s).num < 0) = yb at *
      generalize (ratOf s).num.sign = y at *
      go_wp2_with fail
      refine (HA.out _).mono ?_
      rintro e w9 ⟨rfl, X9⟩
      have hcell := X9.cell hcell
      have hcell2 := X9.cell hcell2
      have XA := X.trans X9
      clear X X9
      cases no
      · by_cases hy : y < 0
        · obtain rfl : yb = true := by rw [HSG.out]; exact decide_eq_true hy
          obtain rfl : nn = true := by rw [HAN.out]; rfl
          go_wp2_with fail
          refine (HG.out _).mono ?_
          rintro e wz ⟨rfl, X11⟩
          have hcell := X11.cell hcell
          have hcell2 := X11.cell hcell2
          have XA := XA.trans X11
          clear X11
          go_wp2_with fail
          go_region_held3 (fun w' => w'.cell? ⟨g, off + i, none⟩ = some (.string s) ∧ w'.cell? ⟨g, off + b, none⟩ = some (.string s2))
              (first | exact ⟨hcell, hcell2⟩ | exact ⟨X10.cell hcell, X10.cell hcell2⟩ | go_keep)
              ((go_at_call 37; refine (HM.out _).mono ?_; rintro e w10 ⟨rfl, Y10⟩; have X10 : Ext wz w10 := (Ext.refl wz).drew.trans Y10))
          all_goals
            have XN := XA.trans X10
            by_cases hz : 0 ≤ z
            · have HTOP := HTN.out (by omega)
              clear HTN HTB
              go_wp2_with fail
              go_roundw
              case rel => exact ⟨i, i, by omega, by omega, by go_num, by rw [HS2.out], rfl, by first | (rw [HNN.out]; done) | (rw [HNN.out]; exact congrArg Value.bool (decide_eq_false (by omega))), Lib.hid (Or.inr HTOP), XN⟩
              case measure => simp [intOf] <;> omega
            · have HTOP := HTB.out (by omega)
              clear HTN HTB
              go_wp2_with fail
              go_roundw
              case rel => exact ⟨i, b, by omega, by omega, by go_num, by rw [HS2.out], rfl, by first | (rw [HNN.out]; done) | (rw [HNN.out]; exact congrArg Value.bool (decide_eq_false (by omega))), Lib.hid (Or.inr HTOP), XN⟩
              case measure => simp [intOf] <;> omega
        · obtain rfl : yb = false := by rw [HSG.out]; exact decide_eq_false hy
          obtain rfl : nn = false := by rw [HAN.out]; rfl
          go_wp2_with fail
          refine (HG.out _).mono ?_
          rintro e wz ⟨rfl, X11⟩
          have hcell := X11.cell hcell
          have hcell2 := X11.cell hcell2
          have XA := XA.trans X11
          clear X11
          go_wp2_with fail
          go_region_held3 (fun w' => w'.cell? ⟨g, off + i, none⟩ = some (.string s) ∧ w'.cell? ⟨g, off + b, none⟩ = some (.string s2))
              (first | exact ⟨hcell, hcell2⟩ | exact ⟨X10.cell hcell, X10.cell hcell2⟩ | go_keep)
              ((go_at_call 37; refine (HM.out _).mono ?_; rintro e w10 ⟨rfl, Y10⟩; have X10 : Ext wz w10 := (Ext.refl wz).drew.trans Y10))
          all_goals
            have XN := XA.trans X10
            by_cases hz : 0 ≤ z
            · have HTOP := HTN.out (by omega)
              clear HTN HTB
              go_wp2_with fail
              go_roundw
              case rel => exact ⟨i, i, by omega, by omega, by go_num, by rw [HS2.out], rfl, by first | (rw [HNN.out]; done) | (rw [HNN.out]; exact congrArg Value.bool (decide_eq_false (by omega))), Lib.hid (Or.inr HTOP), XN⟩
              case measure => simp [intOf] <;> omega
            · have HTOP := HTB.out (by omega)
              clear HTN HTB
              go_wp2_with fail
              go_roundw
              case rel => exact ⟨i, b, by omega, by omega, by go_num, by rw [HS2.out], rfl, by first | (rw [HNN.out]; done) | (rw [HNN.out]; exact congrArg Value.bool (decide_eq_false (by omega))), Lib.hid (Or.inr HTOP), XN⟩
              case measure => simp [intOf] <;> omega
      · obtain rfl : nn = true := by rw [HAN.out]; exact Bool.or_true _
        obtain ⟨wz, rfl⟩ : ∃ wz : World, wz = w9 := ⟨_, rfl⟩
        go_wp2_with fail
        go_region_held3 (fun w' => w'.cell? ⟨g, off + i, none⟩ = some (.string s) ∧ w'.cell? ⟨g, off + b, none⟩ = some (.string s2))
            (first | exact ⟨hcell, hcell2⟩ | exact ⟨X10.cell hcell, X10.cell hcell2⟩ | go_keep)
            ((go_at_call 37; refine (HM.out _).mono ?_; rintro e w10 ⟨rfl, Y10⟩; have X10 : Ext wz w10 := (Ext.refl wz).drew.trans Y10))
        all_goals
          have XN := XA.trans X10
          by_cases hz : 0 ≤ z
          · have HTOP := HTN.out (by omega)
            clear HTN HTB
            go_wp2_with fail
            go_roundw
            case rel => exact ⟨i, i, by omega, by omega, by go_num, by rw [HS2.out], rfl, by first | (rw [HNN.out]; done) | (rw [HNN.out]; exact congrArg Value.bool (decide_eq_false (by omega))), Lib.hid (Or.inr HTOP), XN⟩
            case measure => simp [intOf] <;> omega
          · have HTOP := HTB.out (by omega)
            clear HTN HTB
            go_wp2_with fail
            go_roundw
            case rel => exact ⟨i, b, by omega, by omega, by go_num, by rw [HS2.out], rfl, by first | (rw [HNN.out]; done) | (rw [HNN.out]; exact congrArg Value.bool (decide_eq_false (by omega))), Lib.hid (Or.inr HTOP), XN⟩
            case measure => simp [intOf] <;> omega
    · have hj0 : j = 0 := by omega
      subst hj0
      have hBb : b = B := by
        rcases HT.out with ⟨h1, h2⟩ | h1
        · omega
        · exact h1.unique HB.out
      subst hBb
      have XE := E8.trans X
      rw [List.drop_zero, show ((0 : Nat) : Int) - 1 = -1 from rfl]
      have htt : ((ratT (sumQ qs)).toList == (ratT (sumQ qs)).toList) = true := by simp
      have hbb : ((b : Int) == (b : Int)) = true := by simp
      rw [han]
      clear HB HQ HADD HSGN HCMP HT HQL HC HV hlt
      generalize ratT (sumQ qs) = ST at *
      go_wp2_with fail
      go_ret
      exact ⟨by first | rfl | simp, XE⟩

set_option maxHeartbeats 3200000 in
set_option maxRecDepth 100000 in
theorem ratLists_pos (ao : Option Addr) (c : Nat) (l : List ByteArray)  (w : World) (HV : Hid (Strs w (.slice ao l.length c) l)) (qs : List Rat) (B : Nat) (hl : ((l.length : Int) == 0) = false) (hli : (l.length : Int) ≤ 256) (hl0 : 0 < l.length) (HC : Hid (CellsOf Value.string w ao l)) (HQL : Hid (qs.length = l.length)) (HB : Hid (Top qs 0 l.length B))
    (HQ : Hid (∀ (i : Nat) (s : ByteArray), l[i]? = some s → s ∈ l ∧ qs.drop i = ratOf s :: qs.drop (i + 1) ∧ qs.getD i 0 = ratOf s))
    (HADD : Hid (∀ (s : ByteArray) (i : Nat) W, s ∈ l → i ≤ l.length → Calls Tryz.prog 27 #[.string s, .string (ratT (sumQ (qs.drop i)))] W fun e w' => e = .returned (.string (ratT (ratOf s + sumQ (qs.drop i)))) ∧ Ext W w'))
    (HSGN : Hid (∀ (s : ByteArray) W, s ∈ l → Calls Tryz.prog 38 #[.string s] W fun e w' => e = .returned (.int .i64 (ratOf s).num.sign) ∧ Ext W w'))
    (HCMP : Hid (∀ (s s2 : ByteArray) W, s ∈ l → s2 ∈ l → Calls Tryz.prog 37 #[.string s, .string s2] W fun e w' => e = .returned (.int .i64 (cmpQ (ratOf s) (ratOf s2))) ∧ Ext W w')) (os : List ByteArray) (o : Int) (h1 : Bool) (han : anyQ qs = false) (hz0 : ((ratT (sumQ qs)).toList == [48]) = false) (HZ1 : Hid (((ratT (sumQ qs)).toList == [49]) = h1)) (HO : Hid (o = if h1 = true then 0 else 3)) (HOL : Hid (os.length = l.length))
    (HDIV : Hid (∀ (i : Nat) (s t : ByteArray) W, l[i]? = some s → os[i]? = some t → Calls Tryz.prog 21 #[.string s, .string (ratT (sumQ qs))] W fun e w' => e = .returned (.string t) ∧ Ext W w'))
    (H0 : Hid (∀ W, Ext w W → Calls Tryz.prog 15 #[] W fun e w' => e = .returned (.bool true) ∧ Ext W w'))
    (H1 : Hid (∀ v W, Rows Value.string W v [l] → Calls Tryz.prog 40 #[v] W fun e w' => ∃ n, e = .returned (.int .i64 n) ∧ Ext W w'))
    (H2 : Hid (∀ W, Ext w W → Calls Tryz.prog 41 #[.slice ao l.length c] W fun e w' => e = .returned (.tuple #[.string (ratT (sumQ qs)), .int .i64 0]) ∧ Ext W w'))
    (H3 : Hid (∀ W, Ext w W → Calls Tryz.prog 42 #[.slice ao l.length c] W fun e w' => e = .returned (.tuple #[.int .i64 B, .int .i64 0]) ∧ Ext W w'))
    (H4 : Hid (∀ W, Ext w W → Calls Tryz.prog 43 #[.slice ao l.length c] W fun e w' => ∃ ao2 c2, e = .returned (.tuple #[.slice ao2 l.length c2, .int .i64 0]) ∧ CellsOf Value.string w' ao2 os ∧ Ext W w'))
    (H5 : Hid (∀ W, Ext w W → Calls Tryz.prog 44 #[.slice ao l.length c] W fun e w' => e = .returned (.int .i64 o) ∧ Ext W w'))
    (H6 : Hid (∀ W, Ext w W → Calls Tryz.prog 19 #[.slice ao l.length c] W fun e w' => e = .returned (.int .i64 0) ∧ Ext W w'))
    (H7 : Hid (∀ W, Ext w W → Calls Tryz.prog 45 #[.slice ao l.length c] W fun e w' => e = .returned (.bool true) ∧ Ext W w')) :
    Calls Tryz.prog 8 #[.slice ao l.length c] w fun e w' => e = .returned (.bool true) ∧ Ext w w' := by
  have E0 := Ext.refl w
  go_enter Tryz.func8, Tryz.ntmps8
  go_wp2_with fail
  refine (H0.out _ E0).mono ?_
  rintro e w1 ⟨rfl, X1⟩
  have E1 := E0.trans X1
  clear E0 X1
  go_wp2_with fail
  refine (H1.out _ _ (by exact lit_rows_at _ _ (HV.out.ext E1) _ (by first | rfl | simp))).mono ?_
  rintro e w2 ⟨n, rfl, X2⟩
  have E2 := (E1.alloc (.cells #[.slice ao l.length c] 52)).trans X2
  clear E1 X2
  by_cases hn : (6000 : Int) < n
  · go_wp2_with fail
    go_ret
    exact ⟨rfl, E2⟩
  go_wp2_with fail
  refine (H2.out _ E2).mono ?_
  rintro e w3 ⟨rfl, X3⟩
  have E3 := E2.trans X3
  clear E2 X3
  go_wp2_with fail
  refine (H3.out _ E3).mono ?_
  rintro e w4 ⟨rfl, X4⟩
  have E4 := E3.trans X4
  clear E3 X4
  go_wp2_with fail
  refine (H4.out _ E4).mono ?_
  rintro e w5 ⟨ao2, c2, rfl, hsh, X5⟩
  have HSH := Lib.hid hsh
  have E5 := E4.trans X5
  have Z5 := Ext.refl w5
  clear E4 X5 hsh
  go_wp2_with fail
  refine (H5.out _ E5).mono ?_
  rintro e w6 ⟨rfl, X6⟩
  have E6 := E5.trans X6
  have Z6 := Z5.trans X6
  clear E5 X6 Z5
  go_wp2_with fail
  refine (H6.out _ E6).mono ?_
  rintro e w7 ⟨rfl, X7⟩
  have E7 := E6.trans X7
  have Z7 := Z6.trans X7
  clear E6 X7 Z6
  go_wp2_with fail
  refine (H7.out _ E7).mono ?_
  rintro e w8 ⟨rfl, X8⟩
  have E8 := E7.trans X8
  have Z8 := Z7.trans X8
  clear E7 X8 Z7
  go_wp2_with fail
  go_loopw [11, 12, 13, 14] (fun sv bv nv kv wr => ∃ (j b : Nat), j ≤ l.length ∧ b < l.length ∧ kv = .int .i64 ((j : Int) - 1) ∧ sv = .string (ratT (sumQ (qs.drop j))) ∧ bv = .int .i64 b ∧ nv = .bool (anyQ (qs.drop j)) ∧ Hid ((j = l.length ∧ b + 1 = l.length) ∨ Top qs j l.length b) ∧ Ext w8 wr) (fun _ _ _ kv _ => ((intOf kv) + 1).toNat)
  case atStart => exact ⟨l.length, l.length - 1, Nat.le_refl _, by omega, rfl, by rw [← HQL.out, List.drop_length]; exact congrArg Value.string ratT_zero.symm, by rw [Int.natCast_sub (by omega)]; rfl, by rw [← HQL.out, List.drop_length]; rfl, Lib.hid (Or.inl ⟨rfl, by omega⟩), Ext.refl _⟩
  case round =>
    obtain ⟨j, b, hj, hb, rfl, rfl, rfl, rfl, HT, X⟩ := hrel
    by_cases hlt : 0 < j
    · obtain ⟨i, rfl⟩ : ∃ i, j = i + 1 := ⟨j - 1, by omega⟩
      rw [show ((i + 1 : Nat) : Int) - 1 = (i : Int) by omega]
      have hi0 : (0 : Int) ≤ (i : Int) := by omega
      have hil : i < l.length := by omega
      have hili : (i : Int) < (l.length : Int) := by omega
      have hbli : (b : Int) < (l.length : Int) := by omega
      have hbi0 : (0 : Int) ≤ (b : Int) := by omega
      obtain ⟨s, d1, d2, d3⟩ := get_lt hil
      obtain ⟨s2, f1, f2, f3⟩ := get_lt hb
      obtain ⟨g, off, rfl, hc0⟩ := (HC.out.ext (E8.trans X)).at d1
      have hcell : wr.cell? ⟨g, off + i, none⟩ = some (.string s) := hc0
      have hcell2 : wr.cell? ⟨g, off + b, none⟩ = some (.string s2) := (HC.out.ext (E8.trans X)).at' f1
      obtain ⟨q1, q2, q3⟩ := HQ.out i s d1.out
      obtain ⟨p1, p2, p3⟩ := HQ.out b s2 f1.out
      have HA := Lib.hid (fun W => HADD.out s (i + 1) W q1 (by omega))
      have HG := Lib.hid (fun W => HSGN.out s W q1)
      have HM := Lib.hid (fun W => HCMP.out s s2 W q1 p1)
      have hdrop : qs.drop i = ratOf s :: qs.drop (i + 1) := q2
      have hsum : ratOf s + sumQ (qs.drop (i + 1)) = sumQ (qs.drop i) := by rw [hdrop, sumQ]
      have HAN : Hid (anyQ (qs.drop i) = (decide ((ratOf s).num < 0) || anyQ (qs.drop (i + 1)))) := by rw [hdrop]; rfl
      have hgd : qs.getD i 0 = ratOf s := q3
      have hgb : qs.getD b 0 = ratOf s2 := p3
      rw [hsum] at HA
      have HSG : Hid (decide ((ratOf s).num < 0) = decide ((ratOf s).num.sign < 0)) := by show _ = _; rw [decide_eq_decide]; exact Int.sign_neg_iff.symm
      have HTN : Hid (0 ≤ cmpQ (ratOf s) (ratOf s2) → Top qs i l.length i) := fun h => by
        rcases HT.out with ⟨h1, h2⟩ | h1
        · rw [show l.length = i + 1 from h1.symm]; exact Top.one qs i
        · exact h1.down' (by rw [hgd, hgb]; exact h)
      have HTB : Hid (¬ 0 ≤ cmpQ (ratOf s) (ratOf s2) → Top qs i l.length b) := fun h => by
        rcases HT.out with ⟨h1, h2⟩ | h1
        · exfalso
          have hbi : b = i := by omega
          subst hbi
          have hss : s2 = s := by have a := d1.out; have b := f1.out; rw [a] at b; exact (Option.some.inj b).symm
          subst hss
          apply h
          rw [cmpQ_ge]
          exact Rat.le_refl
        · exact h1.down (by rw [hgd, hgb]; exact h)
      clear hdrop hsum hgd hgb HT q1 q2 q3 p1 p2 p3 hlt hc0 f2 f3 d2 d3 hil hj
      obtain ⟨nn, hnn⟩ : ∃ nn, anyQ (qs.drop i) = nn := ⟨_, rfl⟩
      rw [hnn] at HAN
      have HNN := Lib.hid hnn
      clear hnn
      generalize anyQ (qs.drop (i + 1)) = no at *
      generalize ratT (sumQ (qs.drop (i + 1))) = S1 at *
      obtain ⟨S2, hS2⟩ : ∃ S2, ratT (sumQ (qs.drop i)) = S2 := ⟨_, rfl⟩
      rw [hS2] at HA
      have HS2 := Lib.hid hS2
      clear hS2
      generalize cmpQ (ratOf s) (ratOf s2) = z at *
      generalize decide ((ratOf s).num < 0) = yb at *
      generalize (ratOf s).num.sign = y at *
      go_wp2_with fail
      refine (HA.out _).mono ?_
      rintro e w9 ⟨rfl, X9⟩
      have hcell := X9.cell hcell
      have hcell2 := X9.cell hcell2
      have XA := X.trans X9
      clear X X9
      cases no
      · by_cases hy : y < 0
        · obtain rfl : yb = true := by rw [HSG.out]; exact decide_eq_true hy
          obtain rfl : nn = true := by rw [HAN.out]; rfl
          go_wp2_with fail
          refine (HG.out _).mono ?_
          rintro e wz ⟨rfl, X11⟩
          have hcell := X11.cell hcell
          have hcell2 := X11.cell hcell2
          have XA := XA.trans X11
          clear X11
          go_wp2_with fail
          go_region_held3 (fun w' => w'.cell? ⟨g, off + i, none⟩ = some (.string s) ∧ w'.cell? ⟨g, off + b, none⟩ = some (.string s2))
              (first | exact ⟨hcell, hcell2⟩ | exact ⟨X10.cell hcell, X10.cell hcell2⟩ | go_keep)
              ((go_at_call 37; refine (HM.out _).mono ?_; rintro e w10 ⟨rfl, Y10⟩; have X10 : Ext wz w10 := (Ext.refl wz).drew.trans Y10))
          all_goals
            have XN := XA.trans X10
            by_cases hz : 0 ≤ z
            · have HTOP := HTN.out (by omega)
              clear HTN HTB
              go_wp2_with fail
              go_roundw
              case rel => exact ⟨i, i, by omega, by omega, by go_num, by rw [HS2.out], rfl, by first | (rw [HNN.out]; done) | (rw [HNN.out]; exact congrArg Value.bool (decide_eq_false (by omega))), Lib.hid (Or.inr HTOP), XN⟩
              case measure => simp [intOf] <;> omega
            · have HTOP := HTB.out (by omega)
              clear HTN HTB
              go_wp2_with fail
              go_roundw
              case rel => exact ⟨i, b, by omega, by omega, by go_num, by rw [HS2.out], rfl, by first | (rw [HNN.out]; done) | (rw [HNN.out]; exact congrArg Value.bool (decide_eq_false (by omega))), Lib.hid (Or.inr HTOP), XN⟩
              case measure => simp [intOf] <;> omega
        · obtain rfl : yb = false := by rw [HSG.out]; exact decide_eq_false hy
          obtain rfl : nn = false := by rw [HAN.out]; rfl
          go_wp2_with fail
          refine (HG.out _).mono ?_
          rintro e wz ⟨rfl, X11⟩
          have hcell := X11.cell hcell
          have hcell2 := X11.cell hcell2
          have XA := XA.trans X11
          clear X11
          go_wp2_with fail
          go_region_held3 (fun w' => w'.cell? ⟨g, off + i, none⟩ = some (.string s) ∧ w'.cell? ⟨g, off + b, none⟩ = some (.string s2))
              (first | exact ⟨hcell, hcell2⟩ | exact ⟨X10.cell hcell, X10.cell hcell2⟩ | go_keep)
              ((go_at_call 37; refine (HM.out _).mono ?_; rintro e w10 ⟨rfl, Y10⟩; have X10 : Ext wz w10 := (Ext.refl wz).drew.trans Y10))
          all_goals
            have XN := XA.trans X10
            by_cases hz : 0 ≤ z
            · have HTOP := HTN.out (by omega)
              clear HTN HTB
              go_wp2_with fail
              go_roundw
              case rel => exact ⟨i, i, by omega, by omega, by go_num, by rw [HS2.out], rfl, by first | (rw [HNN.out]; done) | (rw [HNN.out]; exact congrArg Value.bool (decide_eq_false (by omega))), Lib.hid (Or.inr HTOP), XN⟩
              case measure => simp [intOf] <;> omega
            · have HTOP := HTB.out (by omega)
              clear HTN HTB
              go_wp2_with fail
              go_roundw
              case rel => exact ⟨i, b, by omega, by omega, by go_num, by rw [HS2.out], rfl, by first | (rw [HNN.out]; done) | (rw [HNN.out]; exact congrArg Value.bool (decide_eq_false (by omega))), Lib.hid (Or.inr HTOP), XN⟩
              case measure => simp [intOf] <;> omega
      · obtain rfl : nn = true := by rw [HAN.out]; exact Bool.or_true _
        obtain ⟨wz, rfl⟩ : ∃ wz : World, wz = w9 := ⟨_, rfl⟩
        go_wp2_with fail
        go_region_held3 (fun w' => w'.cell? ⟨g, off + i, none⟩ = some (.string s) ∧ w'.cell? ⟨g, off + b, none⟩ = some (.string s2))
            (first | exact ⟨hcell, hcell2⟩ | exact ⟨X10.cell hcell, X10.cell hcell2⟩ | go_keep)
            ((go_at_call 37; refine (HM.out _).mono ?_; rintro e w10 ⟨rfl, Y10⟩; have X10 : Ext wz w10 := (Ext.refl wz).drew.trans Y10))
        all_goals
          have XN := XA.trans X10
          by_cases hz : 0 ≤ z
          · have HTOP := HTN.out (by omega)
            clear HTN HTB
            go_wp2_with fail
            go_roundw
            case rel => exact ⟨i, i, by omega, by omega, by go_num, by rw [HS2.out], rfl, by first | (rw [HNN.out]; done) | (rw [HNN.out]; exact congrArg Value.bool (decide_eq_false (by omega))), Lib.hid (Or.inr HTOP), XN⟩
            case measure => simp [intOf] <;> omega
          · have HTOP := HTB.out (by omega)
            clear HTN HTB
            go_wp2_with fail
            go_roundw
            case rel => exact ⟨i, b, by omega, by omega, by go_num, by rw [HS2.out], rfl, by first | (rw [HNN.out]; done) | (rw [HNN.out]; exact congrArg Value.bool (decide_eq_false (by omega))), Lib.hid (Or.inr HTOP), XN⟩
            case measure => simp [intOf] <;> omega
    · have hj0 : j = 0 := by omega
      subst hj0
      have hBb : b = B := by
        rcases HT.out with ⟨h1, h2⟩ | h1
        · omega
        · exact h1.unique HB.out
      subst hBb
      have XE := E8.trans X
      rw [List.drop_zero, show ((0 : Nat) : Int) - 1 = -1 from rfl]
      have htt : ((ratT (sumQ qs)).toList == (ratT (sumQ qs)).toList) = true := by simp
      have hbb : ((b : Int) == (b : Int)) = true := by simp
      rw [han]
      have hz1 := HZ1.out
      have HC2 := Lib.hid (HC.out.ext XE)
      have HS2 := Lib.hid (HSH.out.ext (Z8.trans X))
      clear HB HQ HADD HSGN HCMP HT HQL HC HV hlt HSH HZ1
      generalize ratT (sumQ qs) = ST at *
      obtain ⟨wo, rfl⟩ : ∃ wo : World, wo = wr := ⟨_, rfl⟩
      go_wp2_with fail
      go_loopw [190] (fun iv wr => ∃ (i : Nat), i ≤ l.length ∧ iv = .int .i64 i ∧ Ext wo wr) (fun iv _ => l.length - (intOf iv).toNat)
      case atStart => exact ⟨0, Nat.zero_le _, rfl, Ext.refl _⟩
      case round =>
        obtain ⟨i, hi, rfl, Y⟩ := hrel
        by_cases hlt : i < l.length
        · obtain ⟨s, d1, d2, d3⟩ := get_lt hlt
          obtain ⟨t, f1, f2, f3⟩ := get_lt (xs := os) (k := i) (by rw [HOL.out]; exact hlt)
          have HD := Lib.hid (fun W => HDIV.out i s t W d1.out f1.out)
          obtain ⟨g, off, rfl, hc0⟩ := (HC2.out.ext Y).at d1
          have hcell : wr.cell? ⟨g, off + i, none⟩ = some (.string s) := hc0
          obtain ⟨g2, off2, rfl, hc1⟩ := (HS2.out.ext Y).at f1
          have hcell2 : wr.cell? ⟨g2, off2 + i, none⟩ = some (.string t) := hc1
          have hki : (i : Int) < (l.length : Int) := by omega
          have hll : ((l.length : Int) == (l.length : Int)) = true := by simp
          have htt2 : (t.toList == t.toList) = true := by simp
          obtain ⟨wz, rfl⟩ : ∃ wz : World, wz = wr := ⟨_, rfl⟩
          clear hc0 hc1 hlt d2 d3 f2 f3
          go_wp2_with fail
          go_region_held3 (fun w' => w'.cell? ⟨g2, off2 + i, none⟩ = some (.string t))
            (first | exact hcell2 | exact X10.cell hcell2 | go_keep)
            ((go_at_call 21; refine (HD.out _).mono ?_; rintro e w10 ⟨rfl, Y10⟩; have X10 : Ext wz w10 := (Ext.refl wz).drew.trans Y10))
          all_goals
            go_wp2_with fail
            go_roundw
            case rel => exact ⟨i + 1, by omega, by go_num, Y.trans X10⟩
            case measure => simp [intOf]; omega
        · have hil : l.length = i := by omega
          clear hlt
          cases h1
          · obtain rfl : o = 3 := by rw [HO.out]; rfl
            go_wp2_with fail
            go_ret
            exact ⟨by first | rfl | simp, XE.trans Y⟩
          · obtain rfl : o = 0 := by rw [HO.out]; rfl
            go_wp2_with fail
            go_ret
            exact ⟨by first | rfl | simp, XE.trans Y⟩
end Go.Proofs.YtmmdfijjpeglgaaGreatDoor
