/- texts merged: MyC MyD -/
import Derived.Test.YtjnaecicdaiimaaGreatDoorMyB
/- the law MatrixProducts: contracts in one form -/
namespace Go.Proofs.YtjnaecicdaiimaaGreatDoor
open Go.RowKit
set_option linter.unusedVariables false

def MulU (a b : List (List ByteArray)) (W : World) (e : Ending) (W' : World) : Prop := Ext W W' ∧ ∃ xo xl xc z, e = .returned (.tuple #[.slice xo xl xc, .int .i64 z]) ∧
  ((z = mulE a b ∧ mulE a b ≠ 0 ∧ xl = 0) ∨ (mulE a b = 0 ∧ outsM (mulQ a b) = none ∧ z = 2 ∧ xl = 0) ∨ (mulE a b = 0 ∧ z = 0 ∧ ∃ os, outsM (mulQ a b) = some os ∧ Rows Value.string W' (.slice xo xl xc) os))
def AppU (a : List (List ByteArray)) (l : List ByteArray) (W : World) (e : Ending) (W' : World) : Prop := Ext W W' ∧ ∃ xo xl xc z, e = .returned (.tuple #[.slice xo xl xc, .int .i64 z]) ∧
  ((z = applyE a l ∧ applyE a l ≠ 0 ∧ xl = 0) ∨ (applyE a l = 0 ∧ outsG (applyQ a l) = none ∧ z = 2 ∧ xl = 0) ∨ (applyE a l = 0 ∧ z = 0 ∧ ∃ os, outsG (applyQ a l) = some os ∧ Strs W' (.slice xo xl xc) os))
def TrU (a : List (List ByteArray)) (W : World) (e : Ending) (W' : World) : Prop := Ext W W' ∧ ∃ xo xl xc, e = .returned (.tuple #[.slice xo xl xc, .int .i64 (matE a)]) ∧ (matE a = 0 → Rows Value.string W' (.slice xo xl xc) (transS a))
theorem Rows.shape {w : World} {v : Value} {m : List (List ByteArray)} (h : Rows Value.string w v m) : ∃ xo xl xc, v = .slice xo xl xc := by
  obtain ⟨us, hr, _⟩ := h
  obtain ⟨ao, c, rfl, _⟩ := hr
  exact ⟨_, _, _, rfl⟩
theorem Rows.len {w : World} {xo : Option Addr} {xl xc : Nat} {m : List (List ByteArray)} (h : Rows Value.string w (.slice xo xl xc) m) : xl = m.length := by
  obtain ⟨us, hr, hl, _⟩ := h
  obtain ⟨ao, c, e, _⟩ := hr
  simp only [Value.slice.injEq] at e
  rw [e.2.1, hl]
theorem Strs.len {w : World} {xo : Option Addr} {xl xc : Nat} {m : List ByteArray} (h : Strs w (.slice xo xl xc) m) : xl = m.length := by
  obtain ⟨ao, c, e, _⟩ := h.open
  simp only [Value.slice.injEq] at e
  exact e.2.1
theorem mulU_any (v u : Value) (a b : List (List ByteArray)) (w : World) (htab : TabPow w) (hv : Rows Value.string w v a) (hu : Rows Value.string w u b) (hs : ∀ l ∈ a, ∀ s ∈ l, s.size ≤ 9223372036854775806) (hs2 : ∀ l ∈ b, ∀ s ∈ l, s.size ≤ 9223372036854775806) :
    Calls Tryz.prog 31 #[v, u] w (MulU a b w) := by
  by_cases he : mulE a b = 0
  · refine (mul_ok v u a b w htab hv hu hs hs2 he).mono ?_
    rintro e w' ⟨X, h⟩
    rcases h with ⟨hn, rfl⟩ | ⟨os, x, h1, rfl, s1⟩
    · exact ⟨X, _, _, _, _, rfl, .inr (.inl ⟨he, hn, rfl, rfl⟩)⟩
    · obtain ⟨xo, xl, xc, rfl⟩ := Rows.shape s1
      exact ⟨X, _, _, _, _, rfl, .inr (.inr ⟨he, rfl, os, h1, s1⟩)⟩
  · refine (mul_err v u a b w hv hu hs hs2 he).mono ?_
    rintro e w' ⟨rfl, X⟩
    exact ⟨X, _, _, _, _, rfl, .inl ⟨rfl, he, rfl⟩⟩
theorem appU_any (v u : Value) (a : List (List ByteArray)) (l : List ByteArray) (w : World) (htab : TabPow w) (hv : Rows Value.string w v a) (hu : Strs w u l) (hs : ∀ l ∈ a, ∀ s ∈ l, s.size ≤ 9223372036854775806) (hs2 : ∀ s ∈ l, s.size ≤ 9223372036854775806) :
    Calls Tryz.prog 32 #[v, u] w (AppU a l w) := by
  by_cases he : applyE a l = 0
  · refine (apply_ok v u a l w htab hv hu hs hs2 he).mono ?_
    rintro e w' ⟨X, h⟩
    rcases h with ⟨hn, rfl⟩ | ⟨os, x, h1, rfl, s1⟩
    · exact ⟨X, _, _, _, _, rfl, .inr (.inl ⟨he, hn, rfl, rfl⟩)⟩
    · obtain ⟨xo, xc, rfl, _, _⟩ := s1.open
      exact ⟨X, _, _, _, _, rfl, .inr (.inr ⟨he, rfl, os, h1, s1⟩)⟩
  · refine (apply_err v u a l w hv hu hs hs2 he).mono ?_
    rintro e w' ⟨rfl, X⟩
    exact ⟨X, _, _, _, _, rfl, .inl ⟨rfl, he, rfl⟩⟩
theorem trU_any (v : Value) (a : List (List ByteArray)) (w : World) (hv : Rows Value.string w v a) (hs : ∀ l ∈ a, ∀ s ∈ l, s.size ≤ 9223372036854775806) :
    Calls Tryz.prog 33 #[v] w (TrU a w) := by
  by_cases he : matE a = 0
  · refine (trans_ok v a w hv hs he).mono ?_
    rintro e w' ⟨x, rfl, s1, X⟩
    obtain ⟨xo, xl, xc, rfl⟩ := Rows.shape s1
    exact ⟨X, _, _, _, by rw [he], fun _ => s1⟩
  · refine (trans_err v a w hv hs he).mono ?_
    rintro e w' ⟨rfl, X⟩
    exact ⟨X, _, _, _, rfl, fun h => absurd h he⟩
/-- a literal of matrices -/
theorem lit_mats (w : World) (e : TypeId) (us : List Value) (ms : List (List (List ByteArray))) (k : Nat) (hk : k = w.heap.size) (hb : us.length ≤ 17592186044416) (hl : us.length = ms.length)
    (h : ∀ (i : Nat) (u : Value) (m : List (List ByteArray)), us[i]? = some u → ms[i]? = some m → Rows Value.string w u m) :
    MatsV (w.alloc (.cells us.toArray e)) (.slice (some ⟨k, 0, none⟩) us.length us.length) ms := by
  subst hk
  have h1 := World.ownsRow_lit (base := w.heap.size) (e := e) (size := 1) w us.toArray us.length (Nat.le_refl _) (by unfold maxLen; omega) (by simp)
  exact ⟨us, by simpa using own_row h1 hb, hl, fun i u xs a b => (h i u xs a b).ext ((Ext.refl w).alloc _)⟩
theorem lit_mats2 (w : World) (e : TypeId) {u v : Value} {m n : List (List ByteArray)} (h1 : Rows Value.string w u m) (h2 : Rows Value.string w v n) (k : Nat) (hk : k = w.heap.size) : MatsV (w.alloc (.cells #[u, v] e)) (.slice (some ⟨k, 0, none⟩) 2 2) [m, n] := by
  refine lit_mats w e [u, v] [m, n] k hk (by simp) rfl fun i x xs a b => ?_
  match i, a, b with
  | 0, a, b => simp only [List.getElem?_cons_zero, Option.some.injEq] at a b; subst a; subst b; exact h1
  | 1, a, b => simp only [List.getElem?_cons_succ, List.getElem?_cons_zero, Option.some.injEq] at a b; subst a; subst b; exact h2
  | i + 2, a, b => simp at a
theorem lit_mats3 (w : World) (e : TypeId) {u v x : Value} {m n o : List (List ByteArray)} (h1 : Rows Value.string w u m) (h2 : Rows Value.string w v n) (h3 : Rows Value.string w x o) (k : Nat) (hk : k = w.heap.size) : MatsV (w.alloc (.cells #[u, v, x] e)) (.slice (some ⟨k, 0, none⟩) 3 3) [m, n, o] := by
  refine lit_mats w e [u, v, x] [m, n, o] k hk (by simp) rfl fun i y xs a b => ?_
  match i, a, b with
  | 0, a, b => simp only [List.getElem?_cons_zero, Option.some.injEq] at a b; subst a; subst b; exact h1
  | 1, a, b => simp only [List.getElem?_cons_succ, List.getElem?_cons_zero, Option.some.injEq] at a b; subst a; subst b; exact h2
  | 2, a, b => simp only [List.getElem?_cons_succ, List.getElem?_cons_zero, Option.some.injEq] at a b; subst a; subst b; exact h3
  | i + 3, a, b => simp at a
theorem outsM_RB {k : Nat} (hk : k ≤ 1999) : ∀ (M : List (List Rat)), (∀ r ∈ M, ∀ q ∈ r, RB k q) → outsM M = some (M.map (·.map ratT))
  | [], _ => rfl
  | r :: t, h => by
    rw [outsM, outsG_RB hk r (h r (List.mem_cons_self ..)), outsM_RB hk t fun x hx => h x (List.mem_cons_of_mem _ hx)]
    rfl
theorem colQ_RBx {k : Nat} {M : List (List Rat)} (h : ∀ r ∈ M, ∀ q ∈ r, RB k q) (hk : 1 ≤ k) (j : Nat) : ∀ q ∈ colQ M j, RB k q := by
  intro q hq
  unfold colQ at hq
  obtain ⟨r, hr, rfl⟩ := List.mem_map.1 hq
  rw [List.getD_eq_getElem?_getD]
  cases hj : r[j]? with
  | none => exact RB_zero.mono hk
  | some x => exact h r hr x (List.mem_of_getElem? hj)
theorem mulQ_RB {a b : List (List ByteArray)} (ha : ∀ r ∈ numM a, r.length ≤ 6 ∧ ∀ q ∈ r, RB 12 q) (hb : ∀ r ∈ numM b, ∀ q ∈ r, RB 12 q) : ∀ r ∈ mulQ a b, ∀ q ∈ r, RB 200 q := by
  intro r hr q hq
  unfold mulQ at hr
  obtain ⟨r0, h0, rfl⟩ := List.mem_map.1 hr
  obtain ⟨c0, h1, rfl⟩ := List.mem_map.1 hq
  unfold colsQ at h1
  obtain ⟨j, _, rfl⟩ := List.mem_map.1 h1
  obtain ⟨h2, h3⟩ := ha r0 h0
  exact (dotQ_RB _ _ h3 (colQ_RBx hb (by omega) j)).mono (by have := Nat.mul_le_mul_left 25 h2; omega)
theorem applyQ_RB {a : List (List ByteArray)} {l : List ByteArray} (ha : ∀ r ∈ numM a, r.length ≤ 6 ∧ ∀ q ∈ r, RB 12 q) (hb : ∀ q ∈ l.map ratOf, RB 12 q) : ∀ q ∈ applyQ a l, RB 200 q := by
  intro q hq
  unfold applyQ at hq
  obtain ⟨r0, h0, rfl⟩ := List.mem_map.1 hq
  obtain ⟨h2, h3⟩ := ha r0 h0
  exact (dotQ_RB _ _ h3 hb).mono (by have := Nat.mul_le_mul_left 25 h2; omega)
end Go.Proofs.YtjnaecicdaiimaaGreatDoor
/- the law MatrixProducts: its walk -/
namespace Go.Proofs.YtjnaecicdaiimaaGreatDoor
open Go.RowKit
set_option linter.unusedVariables false

theorem col_texts3 {m : List (List ByteArray)} {k n : Nat} (hr : ∀ l ∈ m, l.length = n) (hk : k < n) (htx : ∀ l ∈ m, (l.map ratOf).map ratT = l) : (colQ (numM m) k).map ratT = tcol m k := by
  unfold colQ numM tcol
  rw [List.map_map, List.map_map]
  refine List.map_congr_left fun l hl => ?_
  show ratT ((l.map ratOf).getD k 0) = l.getD k ⟨#[]⟩
  have h := hr l hl
  have h2 := htx l hl
  have h3 : ((l.map ratOf).map ratT)[k]? = l[k]? := by rw [h2]
  rw [List.getD_eq_getElem?_getD, List.getD_eq_getElem?_getD]
  have hlt : k < (l.map ratOf).length := by rw [List.length_map]; omega
  rw [List.getElem?_map, List.getElem?_eq_getElem hlt] at h3
  rw [List.getElem?_eq_getElem hlt, ← h3]
  rfl
theorem colQ_len3 (M : List (List Rat)) (k : Nat) : (colQ M k).length = M.length := by unfold colQ; rw [List.length_map]

set_option maxHeartbeats 64000000 in
set_option maxRecDepth 100000 in
theorem matrixProducts_walk (v u x : Value) (a b : List (List ByteArray)) (l : List ByteArray) (w : World) (hv : Rows Value.string w v a) (hu : Rows Value.string w u b) (hx : Strs w x l) (hs : ∀ l ∈ a, ∀ s ∈ l, s.size ≤ 9223372036854775806) (hs2 : ∀ l ∈ b, ∀ s ∈ l, s.size ≤ 9223372036854775806) (hs3 : ∀ s ∈ l, s.size ≤ 9223372036854775806) (htab : TabPow w) :
    Calls Tryz.prog 6 #[v, u, x] w fun e w' => e = .returned (.bool true) ∧ Ext w w' := by
  have H0 := Lib.hid (matrixFact_any w htab)
  have H1 := Lib.hid (fun W (h : Ext w W) => weight_any v a W (hv.ext h))
  have H2 := Lib.hid (fun W (h : Ext w W) => weight_any u b W (hu.ext h))
  have H3 := Lib.hid (fun y W h => weight_any y [l] W h)
  have HMU := Lib.hid (fun W (h : Ext w W) => mulU_any v u a b W (tabPow_ext htab h) (hv.ext h) (hu.ext h) hs hs2)
  have HAP := Lib.hid (fun W (h : Ext w W) => appU_any v x a l W (tabPow_ext htab h) (hv.ext h) (hx.ext h) hs hs3)
  have HTR := Lib.hid (fun W (h : Ext w W) => trU_any v a W (hv.ext h) hs)
  have HMA := Lib.hid (fun W (h : Ext w W) => rMatrixError_any v a W (hv.ext h) hs _ rfl)
  have HMB := Lib.hid (fun W (h : Ext w W) => rMatrixError_any u b W (hu.ext h) hs2 _ rfl)
  have HVE := Lib.hid (fun W (h : Ext w W) => rVecError_any x l W (hx.ext h) hs3 _ rfl)
  have HWA := Lib.hid (fun W (h : Ext w W) => rWide_any v a W (hv.ext h))
  have HWB := Lib.hid (fun W (h : Ext w W) => rWide_any u b W (hu.ext h))
  have HA := Lib.hid hv
  have HB := Lib.hid hu
  have HX := Lib.hid hx
  have HVS : ∀ q, vastB 6 [a, b] = q → Hid (∀ y W, MatsV W y [a, b] → Calls Tryz.prog 13 #[.int .i64 6, y] W fun e w' => e = .returned (.bool q) ∧ Ext W w') := fun q hq y W h => vast_any y 6 [a, b] W h (by omega) (fun m2 hm r hr s h2 => by
    simp only [List.mem_cons, List.not_mem_nil, or_false] at hm
    rcases hm with rfl | rfl
    · exact hs r hr s h2
    · exact hs2 r hr s h2) q hq
  have HV3 : ∀ q, vastB 6 [a, b, [l]] = q → Hid (∀ y W, MatsV W y [a, b, [l]] → Calls Tryz.prog 13 #[.int .i64 6, y] W fun e w' => e = .returned (.bool q) ∧ Ext W w') := fun q hq y W h => vast_any y 6 [a, b, [l]] W h (by omega) (fun m2 hm r hr s h2 => by
    simp only [List.mem_cons, List.not_mem_nil, or_false] at hm
    rcases hm with rfl | rfl | rfl
    · exact hs r hr s h2
    · exact hs2 r hr s h2
    · simp only [List.mem_singleton] at hr
      subst hr
      exact hs3 s h2) q hq
  have HNV : Hid (vastB 6 [a, b] = false → mulE a b = 0 → outsM (mulQ a b) = some ((mulQ a b).map (·.map ratT))) := fun h1 h2 => by
    obtain ⟨e1, e2, _⟩ := mulE_zero h2
    obtain ⟨_, ok1⟩ := matE_zero hs e1
    obtain ⟨_, ok2⟩ := matE_zero hs2 e2
    have v1 := vast_all h1 a (List.mem_cons_self ..)
    have v2 := vast_all h1 b (List.mem_cons_of_mem _ (List.mem_cons_self ..))
    refine outsM_RB (k := 200) (by omega) _ (mulQ_RB (fun r hr => ?_) (fun r hr q hq => ?_))
    · unfold numM at hr
      obtain ⟨y, hy, rfl⟩ := List.mem_map.1 hr
      refine ⟨by rw [List.length_map]; exact (v1.2 y hy).1, fun q hq => ?_⟩
      obtain ⟨s, hm, rfl⟩ := List.mem_map.1 hq
      exact ratOf_RB ((ok1 y hy).2.2 s hm).1 ((v1.2 y hy).2 s hm) (by omega)
    · unfold numM at hr
      obtain ⟨y, hy, rfl⟩ := List.mem_map.1 hr
      obtain ⟨s, hm, rfl⟩ := List.mem_map.1 hq
      exact ratOf_RB ((ok2 y hy).2.2 s hm).1 ((v2.2 y hy).2 s hm) (by omega)
  have mat_ok : ∀ (m : List (List ByteArray)), m ∈ [a, b, [l]] → (∀ l ∈ m, ∀ s ∈ l, s.size ≤ 9223372036854775806) → vastB 6 [a, b, [l]] = false → matE m = 0 → m.length ≤ 6 ∧ ∀ y ∈ m, y.length = wideL m ∧ y.length ≤ 6 ∧ (∀ q ∈ y.map ratOf, RB 12 q) ∧ (y.map ratOf).map ratT = y := fun m hm hsm h1 h2 => by
    obtain ⟨_, ok1⟩ := matE_zero hsm h2
    have v1 := vast_all h1 m hm
    refine ⟨v1.1, fun y hy => ⟨(ok1 y hy).1, (v1.2 y hy).1, fun q hq => ?_, texts_of fun s h => ((ok1 y hy).2.2 s h).1⟩⟩
    obtain ⟨s, hm2, rfl⟩ := List.mem_map.1 hq
    exact ratOf_RB ((ok1 y hy).2.2 s hm2).1 ((v1.2 y hy).2 s hm2) (by omega)
  have HDA := Lib.hid (mat_ok a (List.mem_cons_self ..) hs)
  have HDB := Lib.hid (mat_ok b (List.mem_cons_of_mem _ (List.mem_cons_self ..)) hs2)
  have HDL : Hid (vastB 6 [a, b, [l]] = false → vecE l = 0 → l.length ≤ 6 ∧ (∀ q ∈ l.map ratOf, RB 12 q) ∧ (l.map ratOf).map ratT = l) := fun h1 h2 => by
    obtain ⟨_, ok1⟩ := vecE_ok hs3 h2
    have v1 := vast_all h1 [l] (List.mem_cons_of_mem _ (List.mem_cons_of_mem _ (List.mem_cons_self ..)))
    have v2 := v1.2 l (List.mem_cons_self ..)
    refine ⟨v2.1, fun q hq => ?_, texts_of fun s h => (ok1 s h).1⟩
    obtain ⟨s, hm2, rfl⟩ := List.mem_map.1 hq
    exact ratOf_RB (ok1 s hm2).1 (v2.2 s hm2) (by omega)
  have HMQ : Hid (vastB 6 [a, b, [l]] = false → mulE a b = 0 → outsM (mulQ a b) = some ((mulQ a b).map (·.map ratT))) := fun h1 h2 => by
    obtain ⟨e1, e2, _⟩ := mulE_zero h2
    obtain ⟨_, k1⟩ := HDA.out h1 e1
    obtain ⟨_, k2⟩ := HDB.out h1 e2
    refine outsM_RB (k := 200) (by omega) _ (mulQ_RB (fun r hr => ?_) (fun r hr q hq => ?_))
    · unfold numM at hr
      obtain ⟨y, hy, rfl⟩ := List.mem_map.1 hr
      exact ⟨by rw [List.length_map]; exact (k1 y hy).2.1, (k1 y hy).2.2.1⟩
    · unfold numM at hr
      obtain ⟨y, hy, rfl⟩ := List.mem_map.1 hr
      exact (k2 y hy).2.2.1 q hq
  have HAQ : Hid (vastB 6 [a, b, [l]] = false → applyE a l = 0 → outsG (applyQ a l) = some ((applyQ a l).map ratT)) := fun h1 h2 => by
    obtain ⟨e1, e2, _⟩ := applyE_zero h2
    obtain ⟨_, k1⟩ := HDA.out h1 e1
    refine outsG_RB (k := 200) (by omega) _ (applyQ_RB (fun r hr => ?_) (HDL.out h1 e2).2.1)
    unfold numM at hr
    obtain ⟨y, hy, rfl⟩ := List.mem_map.1 hr
    exact ⟨by rw [List.length_map]; exact (k1 y hy).2.1, (k1 y hy).2.2.1⟩
  clear mat_ok
  have HVS := Lib.hid HVS
  have HV3 := Lib.hid HV3
  have HRa : Hid (∀ s l2, l2 ∈ a → s ∈ l2 → s.size ≤ 9223372036854775806) := fun s l2 h1 h2 => hs l2 h1 s h2
  have HRb : Hid (∀ s l2, l2 ∈ b → s ∈ l2 → s.size ≤ 9223372036854775806) := fun s l2 h1 h2 => hs2 l2 h1 s h2
  have HRl : Hid (∀ s ∈ l, s.size ≤ 9223372036854775806) := hs3
  obtain ⟨us, hr, hul, hel⟩ := hv
  obtain ⟨ao, c, rfl, hac, hlen, _, hc⟩ := hr
  obtain ⟨vs, hr2, hvl, hel2⟩ := hu
  obtain ⟨bo, d, rfl, hbc, hlen2, _, hc2⟩ := hr2
  obtain ⟨lo, lc, rfl, hlen3, hd⟩ := hx.open
  have HC := Lib.hid hc
  have HEL := Lib.hid hel
  have HUL := Lib.hid hul
  have HVL := Lib.hid hvl
  clear hc hel hc2 hel2 hd hx hs hs2 hs3 htab hac hbc hul hvl
  have HTR : Hid (∀ W, Ext w W → Calls Tryz.prog 33 #[.slice ao us.length c] W fun e W' => Ext W W' ∧ ∃ xo xl xc, e = .returned (.tuple #[.slice xo xl xc, .int .i64 (matE a)]) ∧ (matE a = 0 → Rows Value.string W' (.slice xo xl xc) (transS a))) := HTR.out
  obtain ⟨pA, hpA⟩ : ∃ p, matE a = p := ⟨_, rfl⟩
  obtain ⟨pB, hpB⟩ : ∃ p, matE b = p := ⟨_, rfl⟩
  obtain ⟨pV, hpV⟩ : ∃ p, vecE l = p := ⟨_, rfl⟩
  obtain ⟨pM, hpM⟩ : ∃ p, mulE a b = p := ⟨_, rfl⟩
  obtain ⟨pP, hpP⟩ : ∃ p, applyE a l = p := ⟨_, rfl⟩
  have HpM : Hid (pM = if pA ≠ 0 then pA else if pB ≠ 0 then pB else if wideL a ≠ b.length then 3 else 0) := by show _ = _; rw [← hpM, ← hpA, ← hpB]; rfl
  have HpP : Hid (pP = if pA ≠ 0 then pA else if pV ≠ 0 then pV else if 0 < a.length ∧ wideL a ≠ l.length then 3 else 0) := by show _ = _; rw [← hpP, ← hpA, ← hpV]; rfl
  have HpA := Lib.hid hpA
  have HpB := Lib.hid hpB
  have HpV := Lib.hid hpV
  have HqM := Lib.hid hpM
  have HqP := Lib.hid hpP
  rw [hpA] at HMA HTR
  rw [hpB] at HMB
  rw [hpV] at HVE
  have HFI : Hid (∀ y (p q : Int) W, Ints W y [p, q] → ∀ r, Hid (firstF [p, q] = r) → Calls Tryz.prog 34 #[y] W fun e w' => e = .returned (.int .i64 r) ∧ W = w') := fun y p q W h r hr => first_any y [p, q] W h r hr
  have hpp : (pA != pA) = false := by simp
  clear hpA hpB hpV hpM hpP
  go_enter Tryz.func6, Tryz.ntmps6
  go_wp2_with fail
  refine H0.out.mono ?_
  rintro e w1 ⟨rfl, E1⟩
  go_wp2_with fail
  refine (H1.out _ E1).mono ?_
  rintro e w2 ⟨n1, rfl, X2⟩
  have E2 := E1.trans X2
  clear E1 X2
  go_wp2_with fail
  refine (H2.out _ E2).mono ?_
  rintro e w3 ⟨n2, rfl, X3⟩
  have E3 := E2.trans X3
  clear E2 X3
  go_wp2_with fail
  refine (H3.out _ _ (by exact lit_rows_one _ _ (HX.out.ext E3) _ (by first | rfl | simp))).mono ?_
  rintro e w4 ⟨n3, rfl, X4⟩
  have E4 := E3.trans (Ext.trans (by repeat' (first | with_reducible exact Ext.refl _ | with_reducible apply Ext.alloc)) X4)
  clear E3 X4
  by_cases hn : (6000 : Int) < wrap64 (wrap64 (n1 + n2) + n3)
  · go_wp2_with fail
    go_ret
    exact ⟨rfl, E4⟩
  go_wp2_with fail
  refine (HMU.out _ E4).mono ?_
  rintro e w5 ⟨X5, xo, xl, xc, z, rfl, hM⟩
  have E5 := E4.trans X5
  rw [HqM.out] at hM
  have HM := Lib.hid hM
  clear E4 X5 hM
  go_wp2_with fail
  refine (HAP.out _ E5).mono ?_
  rintro e w6 ⟨X6, yo, yl, yc, f, rfl, hP⟩
  have E6 := E5.trans X6
  rw [HqP.out] at hP
  have HP := Lib.hid hP
  have X56 := X6
  clear E5 X6 hP
  go_wp2_with fail
  refine (HTR.out _ E6).mono ?_
  rintro e w7 ⟨X7, to', tl, tc, rfl, hT⟩
  have E7 := E6.trans X7
  have X57 := X56.trans X7
  have HT := Lib.hid hT
  have X67 := X7
  clear hT X56 hn X7 E6
  go_wp2_with fail
  refine (HMA.out _ E7).mono ?_
  rintro e w8 ⟨rfl, X8⟩
  have E8 := E7.trans X8
  have X58 := X57.trans X8
  have Z8 := X8
  clear X8 E7 X57
  go_wp2_with fail
  refine (HMA.out _ E8).mono ?_
  rintro e w9 ⟨rfl, X9⟩
  have E9 := E8.trans X9
  have X59 := X58.trans X9
  have Z9 := Z8.trans X9
  clear X9 E8 X58 Z8
  go_wp2_with fail
  refine (HMB.out _ E9).mono ?_
  rintro e w10 ⟨rfl, X10⟩
  have E10 := E9.trans X10
  have X510 := X59.trans X10
  have Z10 := Z9.trans X10
  clear X10 E9 X59 Z9
  obtain ⟨q1, hq1⟩ : ∃ q1, firstF [pA, pB] = q1 := ⟨_, rfl⟩
  have HQ1 := Lib.hid hq1
  go_wp2_with fail
  refine (HFI.out _ _ _ _ (by exact lit_ints_at _ _ ([pA, pB] : List Int) (by simp) _ (by first | rfl | simp)) q1 HQ1).mono ?_
  rintro e w11 ⟨rfl, hX11⟩
  have X11 : Ext w10 w11 := by rw [← hX11]; exact (Ext.refl _).alloc _
  have E11 := E10.trans X11
  have X511 := X510.trans X11
  have Z11 := Z10.trans X11
  clear hX11 E10 X510 X11 hq1 Z10
  go_upto_region 11 with fail
  go_cut [70] from 62 to 70 (fun s70 wx => ∃ bq, s70 = .bool bq ∧ Hid (pM = if bq = true then 3 else q1) ∧ Ext w11 wx)
  case first =>
    by_cases hF : q1 = 0
    · subst hF
      have hF := HQ1.out
      have hM0 : pM = if wideL a ≠ b.length then 3 else 0 := by
        rw [HpM.out]
        rw [firstF_vec] at hF
        by_cases h1 : pA = 0
        · have hna : ¬ pA ≠ 0 := by simpa using h1
          rw [if_neg hna] at hF ⊢
          rw [if_neg (by simpa using hF)]
        · rw [if_pos h1] at hF; exact absurd hF h1
      clear hF
      go_wp2_with fail
      refine (HWA.out _ E11).mono ?_
      rintro e w12 ⟨rfl, X12⟩
      by_cases hw : wideL a = b.length
      · have hb : ((wideL a : Int) != (vs.length : Int)) = false := by rw [hw, HVL.out]; simp
        rw [if_neg (by simpa using hw)] at hM0
        have HM0 := Lib.hid hM0
        generalize wideL a = wa at *
        clear hw hM0
        go_wp2_with fail
        go_meet
        exact ⟨false, rfl, by rw [if_neg (by simp)]; exact HM0.out, X12⟩
      · have hb : ((wideL a : Int) != (vs.length : Int)) = true := by rw [bne_iff_ne, HVL.out]; omega
        rw [if_pos hw] at hM0
        have HM0 := Lib.hid hM0
        generalize wideL a = wa at *
        clear hw hM0
        go_wp2_with fail
        go_meet
        exact ⟨true, rfl, by rw [if_pos rfl]; exact HM0.out, X12⟩
    · have hF2 := HQ1.out
      have HM0 : Hid (pM = q1) := by
        show _ = _
        rw [HpM.out]
        rw [firstF_vec] at hF2
        by_cases h1 : pA = 0
        · have hna : ¬ pA ≠ 0 := by simpa using h1
          rw [if_neg hna] at hF2
          rw [if_neg hna, if_pos (by rw [hF2]; exact hF), hF2]
        · rw [if_pos h1] at hF2
          rw [if_pos h1, hF2]
      have hpm : (q1 == 0) = false := by rw [beq_eq_false_iff_ne]; exact hF
      clear hF hF2
      go_wp2_with fail
      go_meet
      exact ⟨false, rfl, by rw [if_neg (by simp)]; exact HM0.out, Ext.refl _⟩
  case rest =>
  obtain ⟨bq, rfl, hbq, X12⟩ := hcut
  go_upto_if 70 with fail
  go_cut [13] from 71 to 70 (fun s13 wx => s13 = .int .i64 pM ∧ Ext w11 wx)
  case first =>
    have hbq := hbq.out
    cases bq with
    | true =>
      rw [if_pos rfl] at hbq
      have HBQ := Lib.hid hbq
      clear hbq
      go_wp2_with fail
      go_meet
      exact ⟨by rw [HBQ.out], X12⟩
    | false =>
      rw [if_neg (by simp)] at hbq
      have HBQ := Lib.hid hbq
      clear hbq
      go_wp2_with fail
      go_meet
      exact ⟨by rw [HBQ.out], X12⟩
  case rest =>
  obtain ⟨rfl, X12⟩ := hcut
  have E12 := E11.trans X12
  go_upto_region 13 with fail
  go_cut [94] from 71 to 94 (fun s94 wx => s94 = .bool false ∧ Ext w11 wx)
  case first =>
    rcases HM.out with ⟨hz, hne, hl0⟩ | ⟨h0, hno, hz, hl0⟩ | ⟨h0, hz, os, hos, hrow⟩
    · subst hz
      subst hl0
      have hb1 : (z != z) = false := by simp
      have hb2 : (z != 0) = true := by simpa using hne
      clear hne
      go_wp2_with fail
      go_meet
      exact ⟨rfl, X12⟩
    · subst h0
      subst hz
      subst hl0
      cases hvb : vastB 6 [a, b] with
      | false =>
        have := HNV.out hvb HqM.out
        rw [hno] at this
        cases this
      | true =>
        have HV := Lib.hid (HVS.out true hvb)
        clear hno hvb
        go_wp2_with fail
        refine (HV.out _ _ (by exact lit_mats2 _ _ (HA.out.ext E12) (HB.out.ext E12) _ (by first | rfl | simp))).mono ?_
        rintro e w13 ⟨rfl, X13⟩
        have X13 := X12.trans (Ext.trans (by repeat' (first | with_reducible exact Ext.refl _ | with_reducible apply Ext.alloc)) X13)
        go_wp2_with fail
        go_meet
        exact ⟨rfl, X13⟩
    · subst h0
      subst hz
      clear hos hrow
      go_wp2_with fail
      go_meet
      exact ⟨rfl, X12⟩
  case rest =>
  clear X12 E12
  obtain ⟨rfl, X12⟩ := hcut
  have E12 := E11.trans X12
  obtain ⟨q2, hq2⟩ : ∃ q2, firstF [pA, pV] = q2 := ⟨_, rfl⟩
  have HQ2 := Lib.hid hq2
  clear hq2
  go_wp2_with fail
  refine (HMA.out _ E12).mono ?_
  rintro e w14 ⟨rfl, X14⟩
  have E14 := E12.trans X14
  have Y14 := X12.trans X14
  clear E12 X12 X14
  go_wp2_with fail
  refine (HVE.out _ E14).mono ?_
  rintro e w15 ⟨rfl, X15⟩
  have E15 := E14.trans X15
  have Y15 := Y14.trans X15
  clear E14 Y14 X15
  go_wp2_with fail
  refine (HFI.out _ _ _ _ (by exact lit_ints_at _ _ ([pA, pV] : List Int) (by simp) _ (by first | rfl | simp)) q2 HQ2).mono ?_
  rintro e w16 ⟨rfl, hX16⟩
  have X16 : Ext w15 w16 := by rw [← hX16]; exact (Ext.refl _).alloc _
  have E16 := E15.trans X16
  have Y16 := Y15.trans X16
  clear hX16 E15 Y15 X16
  go_upto_region 16 with fail
  go_cut [114] from 101 to 114 (fun s114 wx => ∃ bq, s114 = .bool bq ∧ Hid (pP = if bq = true then 3 else q2) ∧ Ext w11 wx)
  case first =>
    by_cases hF : q2 = 0
    · subst hF
      have hF := HQ2.out
      have hM0 : pP = if 0 < a.length ∧ wideL a ≠ l.length then 3 else 0 := by
        rw [HpP.out]
        rw [firstF_vec] at hF
        by_cases h1 : pA = 0
        · have hna : ¬ pA ≠ 0 := by simpa using h1
          rw [if_neg hna] at hF ⊢
          rw [if_neg (by simpa using hF)]
        · rw [if_pos h1] at hF; exact absurd hF h1
      clear hF
      by_cases h0 : 0 < us.length
      · have h0i : (0 : Int) < (us.length : Int) := by omega
        by_cases hw : wideL a = l.length
        · have hb : ((wideL a : Int) != (l.length : Int)) = false := by rw [hw]; simp
          have HM0 : Hid (pP = 0) := by show _ = _; rw [hM0, if_neg (fun h => h.2 hw)]
          generalize wideL a = wa at *
          clear hw hM0
          go_wp2_with fail
          refine (HWA.out _ E16).mono ?_
          rintro e w17 ⟨rfl, X17⟩
          go_wp2_with fail
          go_meet
          exact ⟨false, rfl, by rw [if_neg (by simp)]; exact HM0.out, Y16.trans X17⟩
        · have hb : ((wideL a : Int) != (l.length : Int)) = true := by rw [bne_iff_ne]; omega
          have HM0 : Hid (pP = 3) := by show _ = _; rw [hM0, if_pos ⟨by rw [← HUL.out]; exact h0, hw⟩]
          generalize wideL a = wa at *
          clear hw hM0
          go_wp2_with fail
          refine (HWA.out _ E16).mono ?_
          rintro e w17 ⟨rfl, X17⟩
          go_wp2_with fail
          go_meet
          exact ⟨true, rfl, by rw [if_pos rfl]; exact HM0.out, Y16.trans X17⟩
      · have h0i : ¬ (0 : Int) < (us.length : Int) := by omega
        have HM0 : Hid (pP = 0) := by show _ = _; rw [hM0, if_neg (fun h => h0 (by rw [HUL.out]; exact h.1))]
        clear hM0
        go_wp2_with fail
        go_meet
        exact ⟨false, rfl, by rw [if_neg (by simp)]; exact HM0.out, Y16⟩
    · have hF2 := HQ2.out
      have HM0 : Hid (pP = q2) := by
        show _ = _
        rw [HpP.out]
        rw [firstF_vec] at hF2
        by_cases h1 : pA = 0
        · have hna : ¬ pA ≠ 0 := by simpa using h1
          rw [if_neg hna] at hF2
          rw [if_neg hna, if_pos (by rw [hF2]; exact hF), hF2]
        · rw [if_pos h1] at hF2
          rw [if_pos h1, hF2]
      have hpm : (q2 == 0) = false := by rw [beq_eq_false_iff_ne]; exact hF
      clear hF hF2
      go_wp2_with fail
      go_meet
      exact ⟨false, rfl, by rw [if_neg (by simp)]; exact HM0.out, Y16⟩
  case rest =>
  clear E16 Y16
  obtain ⟨bq2, rfl, hbq2, X17⟩ := hcut
  go_upto_if 114 with fail
  go_cut [14] from 115 to 114 (fun s14 wx => s14 = .int .i64 pP ∧ Ext w11 wx)
  case first =>
    have hbq := hbq2.out
    cases bq2 with
    | true =>
      rw [if_pos rfl] at hbq
      have HBQ := Lib.hid hbq
      clear hbq
      go_wp2_with fail
      go_meet
      exact ⟨by rw [HBQ.out], X17⟩
    | false =>
      rw [if_neg (by simp)] at hbq
      have HBQ := Lib.hid hbq
      clear hbq
      go_wp2_with fail
      go_meet
      exact ⟨by rw [HBQ.out], X17⟩
  case rest =>
  clear X17
  obtain ⟨rfl, X17⟩ := hcut
  go_upto_region 18 with fail
  go_cut [126] from 115 to 126 (fun s126 wx => s126 = .bool false ∧ Ext w11 wx)
  case first =>
    rcases HP.out with ⟨hz, hne, hl0⟩ | ⟨h0, hno, hz, hl0⟩ | ⟨h0, hz, os, hos, hrow⟩
    · subst hz
      subst hl0
      have hb1 : (f != f) = false := by simp
      have hb2 : (f != 0) = true := by simpa using hne
      clear hne
      go_wp2_with fail
      go_meet
      exact ⟨rfl, X17⟩
    · subst h0
      clear hno hz hl0
      go_wp2_with fail
      go_meet
      exact ⟨rfl, X17⟩
    · subst h0
      clear hos hrow hz
      go_wp2_with fail
      go_meet
      exact ⟨rfl, X17⟩
  case rest =>
  clear X17
  obtain ⟨rfl, X17⟩ := hcut
  have E17 := E11.trans X17
  have X517 := X511.trans X17
  have Z17 := Z11.trans X17
  clear E11 X511 Z11 X17
  cases hvb : vastB 6 [a, b, [l]] with
  | true =>
    have HV := Lib.hid (HV3.out true hvb)
    clear hvb
    go_wp2_with fail
    refine (HV.out _ _ (by exact lit_mats3 _ _ ((HA.out.ext E17).ext ((Ext.refl _).alloc _)) ((HB.out.ext E17).ext ((Ext.refl _).alloc _)) (lit_rows_one _ _ (HX.out.ext E17) _ (by first | rfl | simp)) _ (by first | rfl | simp))).mono ?_
    rintro e w18 ⟨rfl, X18⟩
    have E18 := E17.trans (Ext.trans (by repeat' (first | with_reducible exact Ext.refl _ | with_reducible apply Ext.alloc)) X18)
    go_wp2_with fail
    go_ret
    exact ⟨rfl, E18⟩
  | false =>
    have HVB := Lib.hid hvb
    have HV := Lib.hid (HV3.out false hvb)
    clear hvb
    go_wp2_with fail
    refine (HV.out _ _ (by exact lit_mats3 _ _ ((HA.out.ext E17).ext ((Ext.refl _).alloc _)) ((HB.out.ext E17).ext ((Ext.refl _).alloc _)) (lit_rows_one _ _ (HX.out.ext E17) _ (by first | rfl | simp)) _ (by first | rfl | simp))).mono ?_
    rintro e w18 ⟨rfl, X18⟩
    have E18 := E17.trans (Ext.trans (by repeat' (first | with_reducible exact Ext.refl _ | with_reducible apply Ext.alloc)) X18)
    have X518 := X517.trans (Ext.trans (by repeat' (first | with_reducible exact Ext.refl _ | with_reducible apply Ext.alloc)) X18)
    have Z18 := Z17.trans (Ext.trans (by repeat' (first | with_reducible exact Ext.refl _ | with_reducible apply Ext.alloc)) X18)
    clear E17 X517 Z17 X18
    by_cases hA0 : pA = 0
    · subst hA0
      have hTr := (HT.out rfl).ext Z18
      have htl : tl = wideL a := by rw [Rows.len hTr]; unfold transS; rw [List.length_map, List.length_range]
      obtain ⟨hka, hdk⟩ := HDA.out HVB.out HpA.out
      have HDK := Lib.hid hdk
      have HNA : Hid (a.length = us.length) := HUL.out.symm
      obtain ⟨ts, hr3, htn, htel⟩ := hTr
      obtain ⟨to2, tc2, he, _, htl2, _, htc⟩ := hr3
      simp only [Value.slice.injEq] at he
      obtain ⟨rfl, hlt, rfl⟩ := he
      have HTC := Lib.hid htc
      have HTE := Lib.hid htel
      have HTN : Hid (ts.length = tl) := hlt.symm
      have HTL := Lib.hid htl
      have htw : ((tl : Int) != (wideL a : Int)) = false := by rw [htl]; simp
      have hul6 : us.length ≤ 6 := by rw [← HNA.out]; exact hka
      have htl6 : tl ≤ 17592186044416 := by rw [hlt]; exact htl2
      clear htc htel htn hlt hka htl hdk
      go_wp2_with fail
      refine (HWA.out _ E18).mono ?_
      rintro e w19 ⟨rfl, X19⟩
      have E19 := E18.trans X19
      have Z19 := Z18.trans X19
      have X519 := X518.trans X19
      clear E18 Z18 X518
      go_wp2_with fail
      go_loopw [144] (fun iv wr => ∃ (i : Nat), i ≤ tl ∧ iv = .int .i64 i ∧ Ext w19 wr) (fun iv _ => tl - (intOf iv).toNat)
      case atStart => exact ⟨0, Nat.zero_le _, rfl, Ext.refl _⟩
      case round =>
        obtain ⟨i, hi, rfl, Y⟩ := hrel
        by_cases hlt : i < tl
        · obtain ⟨tu, d1, _, _⟩ := get_lt (xs := ts) (k := i) (by rw [HTN.out]; exact hlt)
          have hq : (transS a)[i]? = some (tcol a i) := by unfold transS; rw [List.getElem?_map, List.getElem?_range (by rw [← HTL.out]; exact hlt)]; rfl
          have hst := HTE.out i tu _ d1.out hq
          obtain ⟨tb, toff, rfl, hc0⟩ := (HTC.out.ext (X19.trans Y)) i tu d1.out
          have hcell : wr.cell? ⟨tb, toff + i, none⟩ = some tu := hc0
          have HCO := Lib.hid (fun W (h : Ext w W) => rColumn_any (.slice ao us.length c) a i tl W (HA.out.ext h) (fun y hy => by rw [HTL.out]; exact (HDK.out y hy).1) hlt (by rw [HNA.out]; omega))
          have HST := Lib.hid (hst.ext (X19.trans Y))
          obtain ⟨ro, rc, rfl, _, _⟩ := hst.open
          have hki : (i : Int) < (tl : Int) := by omega
          clear hq hst hc0 hlt d1
          go_wp2_with fail
          refine (HCO.out _ (E19.trans Y)).mono ?_
          rintro e w20 ⟨uc, rfl, huc, X20⟩
          have HUC := Lib.hid huc
          obtain ⟨uo, uc2, rfl, _, _⟩ := huc.open
          have HST2 := Lib.hid (HST.out.ext X20)
          clear huc HST HCO
          go_wp2_with fail
          refine (equal_vec _ _ _ _ HST2.out HUC.out).mono ?_
          rintro e w21 ⟨rfl, X21⟩
          have Y21 := (Y.trans X20).trans X21
          go_wp2_with fail
          go_roundw
          case rel => exact ⟨i + 1, by omega, by go_num, Y21⟩
          case measure => simp [intOf] <;> omega
        · have hge : (tl : Int) ≤ (i : Int) := by omega
          have E20 := E19.trans Y
          have Z20 := Z19.trans Y
          have X520 := X519.trans Y
          obtain ⟨w20, rfl⟩ : ∃ w20 : World, w20 = wr := ⟨_, rfl⟩
          clear hlt E19 Z19 X519 Y hi
          go_upto_if 157 with fail
          go_cut [] from 145 to 182 (fun wx => Ext w20 wx)
          case first =>
            by_cases hP0 : pP = 0
            · subst hP0
              rcases HP.out with ⟨_, hne, _⟩ | ⟨_, hno, _, _⟩ | ⟨_, hz, os, hos, hrow⟩
              · exact absurd rfl hne
              · have := HAQ.out HVB.out HqP.out
                rw [hno] at this
                cases this
              · subst hz
                have h2 := HAQ.out HVB.out HqP.out
                rw [hos] at h2
                cases h2
                have hyl : yl = us.length := by rw [Strs.len hrow, List.length_map]; unfold applyQ; rw [List.length_map]; unfold numM; rw [List.length_map, HNA.out]
                subst hyl
                obtain ⟨_, eV, hwl⟩ := applyE_zero HqP.out
                obtain ⟨_, hlq, hlt3⟩ := HDL.out HVB.out eV
                obtain ⟨yo2, yc2, he, hyl2, hyc⟩ := hrow.open
                simp only [Value.slice.injEq] at he
                obtain ⟨rfl, hlx, rfl⟩ := he
                clear hlx
                have HYC := Lib.hid hyc
                have HLQ := Lib.hid hlq
                have HLT := Lib.hid hlt3
                have HWL := Lib.hid hwl
                have hyw : ((us.length : Int) != (us.length : Int)) = false := by simp
                clear hos hrow hyl2 hyc eV hlq hlt3 hwl
                go_wp2_with fail
                go_loopw [169] (fun iv wr => ∃ (i : Nat), i ≤ us.length ∧ iv = .int .i64 i ∧ Ext w20 wr) (fun iv _ => us.length - (intOf iv).toNat)
                case atStart => exact ⟨0, Nat.zero_le _, rfl, Ext.refl _⟩
                case round =>
                  obtain ⟨i, hi, rfl, Y⟩ := hrel
                  by_cases hlt : i < us.length
                  · obtain ⟨xu, d1, _, _⟩ := get_lt hlt
                    obtain ⟨r, q1, _, _⟩ := get_lt (xs := a) (k := i) (by rw [HNA.out]; exact hlt)
                    have hrm := List.mem_of_getElem? q1.out
                    obtain ⟨k1, k2, k3, k4⟩ := HDK.out r hrm
                    obtain ⟨xb, xoff, rfl, hc0⟩ := (HC.out.ext (E20.trans Y)) i xu d1.out
                    have hcell : wr.cell? ⟨xb, xoff + i, none⟩ = some xu := hc0
                    have hst := HEL.out i xu r d1.out q1.out
                    have hyq : Hid (((applyQ a l).map ratT)[i]? = some (ratT (dotQ (r.map ratOf) (l.map ratOf)))) := by
                      show _ = _
                      unfold applyQ numM
                      rw [List.getElem?_map, List.getElem?_map, List.getElem?_map, q1.out]; rfl
                    obtain ⟨yb, yoff, rfl, hcy⟩ := (HYC.out.ext ((X67.trans Z20).trans Y)).at hyq
                    have HDO := Lib.hid (fun W (h : Ext w W) => rDot_any xu (.slice lo l.length lc) (r.map ratOf) (l.map ratOf) 12 12 W (by rw [k4]; exact hst.ext h) (by rw [HLT.out]; exact HX.out.ext h) (by rw [List.length_map, List.length_map, k1, HWL.out (by rw [HNA.out]; omega)]) (by rw [List.length_map]; omega) (by omega) k3 HLQ.out)
                    obtain ⟨ro, rc, rfl, _, _⟩ := hst.open
                    have EY := E20.trans Y
                    have hii : (i : Int) < (us.length : Int) := by omega
                    have hi0 : (0 : Int) ≤ (i : Int) := by omega
                    generalize ratT (dotQ (r.map ratOf) (l.map ratOf)) = T at *
                    have htt : (T.toList != T.toList) = false := by simp
                    clear hc0 hst hyq hrm k1 k2 k3 k4 q1 d1
                    go_wp2_with fail
                    go_region_held3 (fun W9 => W9.cell? ⟨yb, yoff + i, none⟩ = some (.string T))
                      (first | exact XD.cell hcy | exact hcy | go_keep)
                      (first | (go_at_call 24; refine (HDO.out _ (by exact EY.drew)).mono ?_; rintro e w22 ⟨rfl, X22⟩; have XD : Ext wr w22 := (Ext.refl wr).drew.trans X22))
                    all_goals
                      have Y22 := Y.trans XD
                      clear hcell hcy
                      go_wp2_with fail
                      go_roundw
                      case rel => exact ⟨i + 1, by omega, by go_num, Y22⟩
                      case measure => simp [intOf] <;> omega
                  · have hge : (us.length : Int) ≤ (i : Int) := by omega
                    clear hlt hi
                    go_wp2_with fail
                    go_meet
                    exact Y
            · have hb : (pP == 0) = false := by rw [beq_eq_false_iff_ne]; exact hP0
              clear hP0
              go_wp2_with fail
              go_meet
              exact Ext.refl _
          case rest =>
          have E21 := E20.trans hcut
          have X521 := X520.trans hcut
          by_cases hM0 : pM = 0
          · subst hM0
            rcases HM.out with ⟨_, hne, _⟩ | ⟨_, hno, _, _⟩ | ⟨_, hz, os, hos, hrow⟩
            · exact absurd rfl hne
            · have := HMQ.out HVB.out HqM.out
              rw [hno] at this
              cases this
            · have h2 := HMQ.out HVB.out HqM.out
              rw [hos] at h2
              cases h2
              have hxl : xl = us.length := by rw [Rows.len hrow, List.length_map]; unfold mulQ; rw [List.length_map]; unfold numM; rw [List.length_map, HNA.out]
              subst hxl
              obtain ⟨_, eB, hwb⟩ := mulE_zero HqM.out
              obtain ⟨hb6, hbk⟩ := HDB.out HVB.out eB
              have hwb6 : wideL b ≤ 6 := by
                cases b with
                | nil => show ([] : List ByteArray).length ≤ 6; decide
                | cons y t => exact (hbk y (List.mem_cons_self ..)).2.1
              obtain ⟨ms, hr4, hmn, hmel⟩ := hrow
              obtain ⟨xo2, xc2, he, _, hml, _, hmc⟩ := hr4
              simp only [Value.slice.injEq] at he
              obtain ⟨rfl, hms, rfl⟩ := he
              have HMC := Lib.hid hmc
              have HME := Lib.hid hmel
              have HMS : Hid (ms.length = us.length) := hms.symm
              have HBK := Lib.hid hbk
              have HWBL := Lib.hid hwb
              have hxw : ((us.length : Int) != (us.length : Int)) = false := by simp
              have hbb : ((wideL b : Int) != (wideL b : Int)) = false := by simp
              have HTXB : Hid (∀ k, k < wideL b → (colQ (numM b) k).map ratT = tcol b k) := fun k hk => col_texts3 (fun y hy => (hbk y hy).1) hk fun y hy => (hbk y hy).2.2.2
              have HRBB : Hid (∀ k, ∀ q ∈ colQ (numM b) k, RB 12 q) := fun k => colQ_RBx (fun r hr q hq => by
                unfold numM at hr
                obtain ⟨y, hy, rfl⟩ := List.mem_map.1 hr
                exact (hbk y hy).2.2.1 q hq) (by omega) k
              clear hos hmn hml hmc hmel eB hbk hms hz hwb
              have hwbi : (wideL b : Int) ≤ 6 := by omega
              go_wp2_with fail
              go_loopw [192] (fun iv wr => ∃ (i : Nat), i ≤ us.length ∧ iv = .int .i64 i ∧ Ext w wr ∧ Ext w5 wr) (fun iv _ => us.length - (intOf iv).toNat)
              case atStart => exact ⟨0, Nat.zero_le _, rfl, E21, X521⟩
              case round =>
                clear E21 X521
                obtain ⟨i, hi, rfl, EY, XY⟩ := hrel
                by_cases hlt : i < us.length
                · obtain ⟨xu, d1, _, _⟩ := get_lt hlt
                  obtain ⟨r, q1, _, _⟩ := get_lt (xs := a) (k := i) (by rw [HNA.out]; exact hlt)
                  obtain ⟨mu, e1, _, _⟩ := get_lt (xs := ms) (k := i) (by rw [HMS.out]; exact hlt)
                  have hrm := List.mem_of_getElem? q1.out
                  obtain ⟨k1, k2, k3, k4⟩ := HDK.out r hrm
                  obtain ⟨xb, xoff, rfl, hc0⟩ := (HC.out.ext EY) i xu d1.out
                  have hcell : wr.cell? ⟨xb, xoff + i, none⟩ = some xu := hc0
                  have hst := HEL.out i xu r d1.out q1.out
                  have hmq : ((mulQ a b).map (·.map ratT))[i]? = some (((colsQ (numM b) (wideL b)).map (dotQ (r.map ratOf))).map ratT) := by
                    unfold mulQ
                    rw [List.getElem?_map, List.getElem?_map]
                    unfold numM
                    rw [List.getElem?_map, q1.out]; rfl
                  have hmst := HME.out i mu _ e1.out hmq
                  obtain ⟨mb, moff, rfl, hc1⟩ := (HMC.out.ext XY) i mu e1.out
                  have hcm : wr.cell? ⟨mb, moff + i, none⟩ = some mu := hc1
                  obtain ⟨go', gc, rfl, _, hgc⟩ := hmst.open
                  have hgl : (((colsQ (numM b) (wideL b)).map (dotQ (r.map ratOf))).map ratT).length = wideL b := by unfold colsQ; rw [List.length_map, List.length_map, List.length_map, List.length_range]
                  rw [hgl] at hcm
                  have HGC := Lib.hid hgc
                  have HDO := Lib.hid (fun k (hk : k < wideL b) (y : Value) W (h : Ext w W) (hy : Strs W y (tcol b k)) => rDot_any xu y (r.map ratOf) (colQ (numM b) k) 12 12 W (by rw [k4]; exact hst.ext h) (by rw [HTXB.out k hk]; exact hy) (by rw [colQ_len3, List.length_map]; unfold numM; rw [List.length_map, k1, HWBL.out]) (by rw [List.length_map]; omega) (by omega) k3 (HRBB.out k))
                  have HGQ : Hid (∀ k, k < wideL b → (((colsQ (numM b) (wideL b)).map (dotQ (r.map ratOf))).map ratT)[k]? = some (ratT (dotQ (r.map ratOf) (colQ (numM b) k)))) := fun k hk => by
                    unfold colsQ
                    rw [List.getElem?_map, List.getElem?_map, List.getElem?_map, List.getElem?_range hk]; rfl
                  generalize ((colsQ (numM b) (wideL b)).map (dotQ (r.map ratOf))).map ratT = gs at *
                  obtain ⟨ro, rc, rfl, _, _⟩ := hst.open
                  have hii : (i : Int) < (us.length : Int) := by omega
                  have hi0 : (0 : Int) ≤ (i : Int) := by omega
                  clear hc0 hc1 hst hmst hmq hgc hrm k1 k2 k3 k4 q1 d1 e1 hgl
                  go_wp2_with fail
                  go_region_held3 (fun W9 => W9.cell? ⟨mb, moff + i, none⟩ = some (.slice go' (wideL b) gc))
                    (first | exact XD.cell hcm | exact hcm | go_keep)
                    (first | (go_at_call 35; refine (HWB.out _ (by exact EY.drew)).mono ?_; rintro e w24 ⟨rfl, X24⟩; have XD : Ext wr w24 := (Ext.refl wr).drew.trans X24))
                  all_goals
                    have EY := EY.trans XD
                    have XY := XY.trans XD
                    have hcm := XD.cell hcm
                    clear hcell XD X24
                    go_wp2_with fail
                    go_loopw [210] (fun kv wr => ∃ (k : Nat), k ≤ wideL b ∧ kv = .int .i64 k ∧ Ext w wr ∧ Ext w5 wr) (fun kv _ => wideL b - (intOf kv).toNat)
                    case atStart => exact ⟨0, Nat.zero_le _, rfl, EY, XY⟩
                    case round =>
                      clear EY XY hcm
                      obtain ⟨k, hk, rfl, EZ, XZ⟩ := hrel
                      by_cases hltk : k < wideL b
                      · have hgq : Hid (gs[k]? = some (ratT (dotQ (r.map ratOf) (colQ (numM b) k)))) := HGQ.out k hltk
                        obtain ⟨gb, goff, rfl, hcg⟩ := (HGC.out.ext XZ).at hgq
                        have HCO := Lib.hid (fun W (h : Ext w W) => rColumn_any (.slice bo vs.length d) b k (wideL b) W (HB.out.ext h) (fun y hy => (HBK.out y hy).1) hltk (by omega))
                        have HDK2 := Lib.hid (HDO.out k hltk)
                        generalize ratT (dotQ (r.map ratOf) (colQ (numM b) k)) = T at *
                        have htt : (T.toList != T.toList) = false := by simp
                        have hkk : (k : Int) < (wideL b : Int) := by omega
                        clear hgq hltk
                        go_wp2_with fail
                        refine (HCO.out _ EZ).mono ?_
                        rintro e w25 ⟨uc, rfl, huc, X25⟩
                        have E25 := EZ.trans X25
                        have HD9 := Lib.hid (HDK2.out uc w25 E25 huc)
                        obtain ⟨uo, uc2, rfl, _, _⟩ := huc.open
                        clear huc HCO HDK2 hcg
                        go_wp2_with fail
                        refine HD9.out.mono ?_
                        rintro e w26 ⟨rfl, X26⟩
                        have E26 := E25.trans X26
                        have X526 := (XZ.trans X25).trans X26
                        go_wp2_with fail
                        go_roundw
                        case rel => exact ⟨k + 1, by omega, by go_num, E26, X526⟩
                        case measure => simp [intOf] <;> omega
                      · have hge : (wideL b : Int) ≤ (k : Int) := by omega
                        clear hltk hk
                        go_wp2_with fail
                        go_roundw
                        case rel => exact ⟨i + 1, by omega, by go_num, EZ, XZ⟩
                        case measure => simp [intOf] <;> omega
                · have hge : (us.length : Int) ≤ (i : Int) := by omega
                  clear hlt hi
                  go_wp2_with fail
                  go_ret
                  exact ⟨rfl, EY⟩
          · have hb : (pM != 0) = true := by simpa using hM0
            clear hM0
            go_wp2_with fail
            go_ret
            exact ⟨rfl, E21⟩
    · have hb : (pA != 0) = true := by simpa using hA0
      clear hA0
      go_wp2_with fail
      go_ret
      exact ⟨rfl, E18⟩
end Go.Proofs.YtjnaecicdaiimaaGreatDoor
