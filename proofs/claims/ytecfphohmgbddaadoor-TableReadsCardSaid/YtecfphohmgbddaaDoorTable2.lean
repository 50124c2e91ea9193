/- walks of the package table: Entry, Check, Sum; of the reference: TableSum, TableError -/
import Derived.Test.YtecfphohmgbddaaDoorTable1
import Derived.Lib.Strings
namespace Go.Proofs.YtecfphohmgbddaaDoor
open Go.RowKit
set_option linter.unusedVariables false

def entryErr (n : Int) : Int := if n < 0 ∨ 9999 < n then 4 else if n % 3 = 2 ∧ n / 3 ≠ 0 then 3 else 0
def EntryPost (n : Int) (w : World) (e : Ending) (w' : World) : Prop :=
  ∃ a b, e = .returned (.tuple #[.agg #[.int .i64 a, .int .i64 b], .int .i64 (entryErr n)]) ∧ Ext w w' ∧ ((entryErr n ≠ 0 ∧ a = 0 ∧ b = 0) ∨ (entryErr n = 0 ∧ a = n % 3 + 1 ∧ b = n / 3))

theorem entry_err {n : Int} {w w' : World} {q : Int} (h : entryErr n = q) (hq : q ≠ 0) (hx : Ext w w') : EntryPost n w (.returned (.tuple #[.agg #[.int .i64 0, .int .i64 0], .int .i64 q])) w' := by
  subst h; exact ⟨0, 0, rfl, hx, .inl ⟨hq, rfl, rfl⟩⟩
theorem entry_ok {n a b : Int} {w w' : World} (h : entryErr n = 0) (ha : n % 3 + 1 = a) (hb : n / 3 = b) (hx : Ext w w') : EntryPost n w (.returned (.tuple #[.agg #[.int .i64 a, .int .i64 b], .int .i64 0])) w' := by
  exact ⟨a, b, by rw [h], hx, .inr ⟨h, ha.symm, hb.symm⟩⟩

set_option maxHeartbeats 1600000 in
set_option maxRecDepth 100000 in
theorem entry_any (n : Int) (w : World) : Calls Tryd.prog 10 #[.int .i64 n] w (EntryPost n w) := by
  have hc : n < 0 ∨ (0 ≤ n ∧ 9999 < n) ∨ (0 ≤ n ∧ n ≤ 9999) := by omega
  rcases hc with h | ⟨h0, h⟩ | ⟨h0, h9⟩
  · have HE : Hid (entryErr n = 4) := by show _ = _; rw [entryErr, if_pos (.inl h)]
    go_enter Tryd.func10, Tryd.ntmps10
    go_wp2_with fail
    refine bodyPost_ret (v := .tuple #[.agg #[.int .i64 0, .int .i64 0], .int .i64 4]) (by simp [results, Tryd.results10, go_sem]) rfl ?_
    exact entry_err HE.out (by decide) ((Ext.refl w).alloc _)
  · have HE : Hid (entryErr n = 4) := by show _ = _; rw [entryErr, if_pos (.inr h)]
    go_enter Tryd.func10, Tryd.ntmps10
    go_wp2_with fail
    refine bodyPost_ret (v := .tuple #[.agg #[.int .i64 0, .int .i64 0], .int .i64 4]) (by simp [results, Tryd.results10, go_sem]) rfl ?_
    exact entry_err HE.out (by decide) ((Ext.refl w).alloc _)
  · have he : entryErr n = if n % 3 = 2 ∧ n / 3 ≠ 0 then 3 else 0 := by rw [entryErr, if_neg (by omega)]
    obtain ⟨r, hr⟩ : ∃ r, n % 3 = r := ⟨_, rfl⟩
    obtain ⟨q, hq⟩ : ∃ q, n / 3 = q := ⟨_, rfl⟩
    have hr0 : 0 ≤ r := by omega
    have hr2 : r ≤ 2 := by omega
    have hq0 : 0 ≤ q := by omega
    have hq1 : q ≤ 3333 := by omega
    have HR := Lib.hid hr
    have HQ := Lib.hid hq
    rw [hr, hq] at he
    by_cases h2 : r = 2
    · subst h2
      by_cases hz : q = 0
      · subst hz
        rw [if_neg (by omega)] at he
        have HE := Lib.hid he
        clear he
        go_enter Tryd.func10, Tryd.ntmps10
        go_wp2_with fail
        refine bodyPost_ret (v := .tuple #[.agg #[.int .i64 3, .int .i64 0], .int .i64 0]) (by simp [results, Tryd.results10, go_sem]) rfl ?_
        exact entry_ok HE.out (by have := HR.out; omega) HQ.out (((Ext.refl w).alloc _).alloc _)
      · rw [if_pos ⟨rfl, hz⟩] at he
        have HE := Lib.hid he
        have hb : (q != 0) = true := by simp [hz]
        clear he hz
        go_enter Tryd.func10, Tryd.ntmps10
        go_wp2_with fail
        refine bodyPost_ret (v := .tuple #[.agg #[.int .i64 0, .int .i64 0], .int .i64 3]) (by simp [results, Tryd.results10, go_sem]) rfl ?_
        exact entry_err HE.out (by decide) (((Ext.refl w).alloc _).alloc _)
    · rw [if_neg (by omega)] at he
      have HE := Lib.hid he
      have hb : (r + 1 == 3) = false := by rw [beq_eq_false_iff_ne]; omega
      clear he h2
      go_enter Tryd.func10, Tryd.ntmps10
      go_wp2_with fail
      refine bodyPost_ret (v := .tuple #[.agg #[.int .i64 (r + 1), .int .i64 q], .int .i64 0]) (by simp [results, Tryd.results10, go_sem]) rfl ?_
      exact entry_ok HE.out (by have := HR.out; omega) HQ.out (((Ext.refl w).alloc _).alloc _)

def tblErr (xs : List Int) : Int := if 4096 < xs.length then 2 else if xs.any (fun n => decide (n < 0) || decide (9999 < n)) then 4 else 0

theorem tcheck1_any (n : Int) (W : World) (q : Bool) (hq : Hid ((decide (n < 0) || decide (9999 < n)) = q)) : Calls Tryd.prog 29 #[.int .i64 n] W fun e W' => e = .returned (.bool q) ∧ Ext W W' := by
  have hc : n < 0 ∨ (0 ≤ n ∧ 9999 < n) ∨ (0 ≤ n ∧ n ≤ 9999) := by omega
  rcases hc with h | ⟨h0, h⟩ | ⟨h0, h9⟩
  all_goals
    go_enter Tryd.func29, Tryd.ntmps29
    go_wp2_with fail
    go_ret
    exact ⟨ret_bool (by rw [← hq.out] <;> first | (simp; omega) | simp [h]), Ext.refl W⟩

set_option maxHeartbeats 800000 in
set_option maxRecDepth 100000 in
theorem tcheck_any (v : Value) (xs : List Int) (w : World) (hv : Ints w v xs) (q : Int) (hq : Hid (tblErr xs = q)) :
    Calls Tryd.prog 14 #[v] w fun e w' => e = .returned (.int .i64 q) ∧ Ext w w' := by
  have hq2 := hq.out
  rw [tblErr] at hq2
  obtain ⟨b, hb⟩ : ∃ b, Hid (xs.any (fun n => decide (n < 0) || decide (9999 < n)) = b) := ⟨_, rfl⟩
  rw [hb.out] at hq2
  have HC := Lib.hid (containsFunc_ints v (xs.map (Value.int .i64)) (xs.map fun n => decide (n < 0) || decide (9999 < n)) 29 #[] w hv (by simp) (fun _ _ => by kernel_rfl)
    (fun i u q W2 g1 g2 hW2 => by
      simp only [List.getElem?_map, Option.map_eq_some_iff] at g1 g2
      obtain ⟨y, hy, rfl⟩ := g1
      obtain ⟨y2, hy2, rfl⟩ := g2
      rw [hy] at hy2
      cases hy2
      exact tcheck1_any y W2 _ rfl) b (by show _ = _; rw [← hb.out]; simp [List.any_map, Function.comp_def]))
  obtain ⟨ao, c, rfl, hlen, hc⟩ := hv.open
  clear hv hc hq hb
  by_cases h : 4096 < xs.length
  · rw [if_pos h] at hq2
    subst hq2
    have hi : (4096 : Int) < (xs.length : Int) := by omega
    go_enter Tryd.func14, Tryd.ntmps14
    go_wp2_with fail
    go_ret
    exact ⟨rfl, Ext.refl w⟩
  · rw [if_neg h] at hq2
    have hi : (xs.length : Int) ≤ 4096 := by omega
    cases b with
    | true =>
      rw [if_pos rfl] at hq2
      subst hq2
      go_enter Tryd.func14, Tryd.ntmps14
      go_wp2_with fail
      refine HC.out.mono ?_
      rintro e w1 ⟨rfl, hx⟩
      go_wp2_with fail
      go_ret
      exact ⟨rfl, hx⟩
    | false =>
      rw [if_neg (by decide)] at hq2
      subst hq2
      go_enter Tryd.func14, Tryd.ntmps14
      go_wp2_with fail
      refine HC.out.mono ?_
      rintro e w1 ⟨rfl, hx⟩
      go_wp2_with fail
      go_ret
      exact ⟨rfl, hx⟩

set_option maxHeartbeats 800000 in
set_option maxRecDepth 100000 in
theorem sum_any (s : ByteArray) (w : World) (hs : s.size ≤ 9223372036854775807) (q : Nat) (hq : Hid (sumF s = q)) :
    Calls Tryd.prog 13 #[.string s] w fun e w' => e = .returned (.int .i64 q) ∧ w = w' := by
  obtain ⟨F, hF⟩ : ∃ F, Hid (sumS s.data.toList (1, 0) = F) := ⟨_, rfl⟩
  have hq2 := hq.out
  rw [sumF, hF.out] at hq2
  have HQ := Lib.hid hq2
  clear hq2
  go_enter Tryd.func13, Tryd.ntmps13
  go_wp2_with fail
  go_loop [3, 4, 8] (fun a b i => ∃ (k a' b' : Nat), k ≤ s.size ∧ i = .int .i64 k ∧ a = .int .i64 a' ∧ b = .int .i64 b' ∧ a' ≤ 65520 ∧ b' ≤ 65520 ∧ Hid (sumS (s.data.toList.drop k) (a', b') = F)) (fun _ _ i => s.size - (intOf i).toNat)
  case atStart => exact ⟨0, 1, 0, Nat.zero_le _, rfl, rfl, rfl, by omega, by omega, hF⟩
  case round =>
    obtain ⟨k, a, b, hk, rfl, rfl, rfl, ha, hb, HI⟩ := hrel
    by_cases hlt : k < s.size
    · have hd : s.data.toList.drop k = s[k] :: s.data.toList.drop (k + 1) := by
        have hlt2 : k < s.data.toList.length := by rw [Array.length_toList]; exact hlt
        rw [List.drop_eq_getElem_cons hlt2]; rfl
      have hi := HI.out
      rw [hd, sumS] at hi
      obtain ⟨c, hc⟩ : ∃ c : Nat, s[k].toNat = c := ⟨_, rfl⟩
      have hc255 : c ≤ 255 := by have := s[k].toNat_lt; omega
      rw [hc] at hi
      obtain ⟨a2, ha2⟩ : ∃ a2, (a + c) % 65521 = a2 := ⟨_, rfl⟩
      obtain ⟨b2, hb2⟩ : ∃ b2, (b + a2) % 65521 = b2 := ⟨_, rfl⟩
      rw [ha2, hb2] at hi
      have HI2 := Lib.hid hi
      have HC := Lib.hid hc
      have e1 : ((a : Int) + (c : Int)) % 65521 = (a2 : Int) := by omega
      have e2 : ((b : Int) + (a2 : Int)) % 65521 = (b2 : Int) := by omega
      have hA : a2 ≤ 65520 := by omega
      have hB : b2 ≤ 65520 := by omega
      have hki : (k : Int) < (s.size : Int) := by omega
      clear hd hi ha2 hb2
      go_wp2_with fail
      go_round
      case rel => exact ⟨k + 1, a2, b2, by omega, by go_num, by first | rfl | rw [e1], by first | rfl | rw [e2], hA, hB, HI2⟩
      case measure => simp [intOf]; omega
    · have hkl : k = s.size := by omega
      subst hkl
      have hf : (a, b) = F := by
        have h := HI.out
        rw [List.drop_eq_nil_of_le (by rw [Array.length_toList]; exact Nat.le_refl _)] at h
        exact h
      have hqq : b * 65536 + a = q := by rw [← HQ.out, ← hf]
      have HQQ := Lib.hid hqq
      clear hf hqq
      go_wp2_with fail
      go_ret
      exact ⟨ret_int (by have := HQQ.out; omega), rfl⟩

set_option maxHeartbeats 800000 in
set_option maxRecDepth 100000 in
theorem tableSum_any (s : ByteArray) (w : World) (hs : s.size ≤ 9223372036854775807) (q : Nat) (hq : Hid (sumF s = q)) :
    Calls Tryd.prog 21 #[.string s] w fun e w' => e = .returned (.int .i64 q) ∧ w = w' := by
  obtain ⟨F, hF⟩ : ∃ F, Hid (sumS s.data.toList (1, 0) = F) := ⟨_, rfl⟩
  have hq2 := hq.out
  rw [sumF, hF.out] at hq2
  have HQ := Lib.hid hq2
  clear hq2
  go_enter Tryd.func21, Tryd.ntmps21
  go_wp2_with fail
  go_loop [3, 4, 8] (fun a b i => ∃ (k a' b' : Nat), k ≤ s.size ∧ i = .int .i64 k ∧ a = .int .i64 a' ∧ b = .int .i64 b' ∧ a' ≤ 65520 ∧ b' ≤ 65520 ∧ Hid (sumS (s.data.toList.drop k) (a', b') = F)) (fun _ _ i => s.size - (intOf i).toNat)
  case atStart => exact ⟨0, 1, 0, Nat.zero_le _, rfl, rfl, rfl, by omega, by omega, hF⟩
  case round =>
    obtain ⟨k, a, b, hk, rfl, rfl, rfl, ha, hb, HI⟩ := hrel
    by_cases hlt : k < s.size
    · have hd : s.data.toList.drop k = s[k] :: s.data.toList.drop (k + 1) := by
        have hlt2 : k < s.data.toList.length := by rw [Array.length_toList]; exact hlt
        rw [List.drop_eq_getElem_cons hlt2]; rfl
      have hi := HI.out
      rw [hd, sumS] at hi
      obtain ⟨c, hc⟩ : ∃ c : Nat, s[k].toNat = c := ⟨_, rfl⟩
      have hc255 : c ≤ 255 := by have := s[k].toNat_lt; omega
      rw [hc] at hi
      obtain ⟨a2, ha2⟩ : ∃ a2, (a + c) % 65521 = a2 := ⟨_, rfl⟩
      obtain ⟨b2, hb2⟩ : ∃ b2, (b + a2) % 65521 = b2 := ⟨_, rfl⟩
      rw [ha2, hb2] at hi
      have HI2 := Lib.hid hi
      have HC := Lib.hid hc
      have e1 : ((a : Int) + (c : Int)) % 65521 = (a2 : Int) := by omega
      have e2 : ((b : Int) + (a2 : Int)) % 65521 = (b2 : Int) := by omega
      have hA : a2 ≤ 65520 := by omega
      have hB : b2 ≤ 65520 := by omega
      have hki : (k : Int) < (s.size : Int) := by omega
      clear hd hi ha2 hb2
      go_wp2_with fail
      go_round
      case rel => exact ⟨k + 1, a2, b2, by omega, by go_num, by first | rfl | rw [e1], by first | rfl | rw [e2], hA, hB, HI2⟩
      case measure => simp [intOf]; omega
    · have hkl : k = s.size := by omega
      subst hkl
      have hf : (a, b) = F := by
        have h := HI.out
        rw [List.drop_eq_nil_of_le (by rw [Array.length_toList]; exact Nat.le_refl _)] at h
        exact h
      have hqq : b * 65536 + a = q := by rw [← HQ.out, ← hf]
      have HQQ := Lib.hid hqq
      clear hf hqq
      go_wp2_with fail
      go_ret
      exact ⟨ret_int (by have := HQQ.out; omega), rfl⟩

theorem tblErr_step {xs : List Int} {k : Nat} {x : Int} (h : Hid (xs.drop k = x :: xs.drop (k + 1))) : (xs.drop k).any (fun n => decide (n < 0) || decide (9999 < n)) = ((decide (x < 0) || decide (9999 < x)) || (xs.drop (k + 1)).any (fun n => decide (n < 0) || decide (9999 < n))) := by
  rw [h.out]; rfl

end Go.Proofs.YtecfphohmgbddaaDoor
