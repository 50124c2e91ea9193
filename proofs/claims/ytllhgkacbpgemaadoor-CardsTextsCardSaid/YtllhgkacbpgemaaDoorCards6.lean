/- walks of the package cards: Deal -/
import Derived.Test.YtllhgkacbpgemaaDoorCards5
import Derived.Deep.RegionLaw
import Derived.Deep.OwnRows
namespace Go.Proofs.YtllhgkacbpgemaaDoor
open Go.RowKit
set_option linter.unusedVariables false

theorem info_row : (Tryd.prog.info? 22).map (fun i => (i.zero, i.size, i.bytes)) = some (some (.slice none 0 0), 1, 24) := by kernel_rfl
theorem ei_rows : EI Tryd.prog 35 22 (.slice none 0 0) 1 24 := ⟨Tryd.underlying35, info_parts info_row, rfl, by decide⟩

/-- append in a region that draws -/
theorem step_app {P : Program} {ops : Array Oper} {o : Oper} {a : Act} {w : World} {K : Act → World → Prop} {Q : Exit → Act → World → Prop} {E : Prop} (hg : o.guard = none) {s x : Operand} {t e : TypeId} {z : Value} {sz bytes : Nat}
    (ho : o.op = .call { callee := .builtin .append, args := #[s, x], argTypes := #[t, t] }) (ei : EI P t e z sz bytes) {B : Nat} {v : Value} {n : Nat} {xs : List Value} (hs : a.eval s = v)
    (hown : w.ownsRow B e sz v n xs) {u : Value} {m : Nat} {news : List Value} (hx : a.eval x = u) (hsrc : Src w u m sz news) (hlen : n + m ≤ 17592186044416) (hby : (n + m) * bytes ≤ 140737488355328) (hB : B ≤ w.heap.size)
    (h : ∀ v' w', w'.ownsRow B e sz v' (n + m) (xs ++ news) → Grew w v w' v' → K (a.put o.dst v') w') : if Region.wanted o (yielded ops a.tmps) = true then Oper.wp P o a w K Q else E := by
  have hw : Region.wanted o (yielded ops a.tmps) = true := by simp [Region.wanted, hg]
  rw [if_pos hw]
  obtain ⟨v', w', hr, h2, h3⟩ := run_app (P := P) (ty := o.type) ei hown hsrc hlen hby hB
  unfold Oper.wp execOp
  simp only [ho, resolve, invoke, builtin, Sem.run_bind, Sem.run_pure, Result.andThen_ok, List.map_toArray, List.map_cons, List.map_nil, hs, hx, hr]
  exact h v' w' h2 h3

/-- the hands behind q rounds and r cards -/
def handAt (deck : List Int) (P q r p : Nat) : List Int := (List.range (q + if p < r then 1 else 0)).map fun j => deck.getD (j * P + p) 0
def handL (deck : List Int) (P q r : Nat) : List (List Int) := (List.range P).map (handAt deck P q r)

theorem handL_len (deck : List Int) (P q r : Nat) : (handL deck P q r).length = P := by simp [handL]
theorem handL_get (deck : List Int) (P q r p : Nat) (h : p < P) : (handL deck P q r)[p]? = some (handAt deck P q r p) := by simp [handL, h]
theorem handL_zero (deck : List Int) (P : Nat) : handL deck P 0 0 = List.replicate P [] := by
  apply List.ext_getElem?
  intro i
  by_cases h : i < P
  · rw [handL_get deck P 0 0 i h]; simp [handAt, h]
  · rw [List.getElem?_eq_none (by rw [handL_len]; omega), List.getElem?_eq_none (by simp; omega)]
theorem handL_step (deck : List Int) (P q r : Nat) (x : Int) (h : r < P) (hx : deck[q * P + r]? = some x) : handL deck P q (r + 1) = (handL deck P q r).set r (handAt deck P q r r ++ [x]) := by
  apply List.ext_getElem?
  intro i
  by_cases hi : i < P
  · rw [handL_get deck P q (r + 1) i hi, List.getElem?_set]
    by_cases e : r = i
    · subst e
      rw [if_pos rfl, if_pos (by rw [handL_len]; exact h)]
      have e1 : handAt deck P q (r + 1) r = handAt deck P q r r ++ [x] := by
        unfold handAt
        rw [if_pos (by omega), if_neg (by omega), Nat.add_zero, List.range_succ, List.map_append]
        simp [List.getD_eq_getElem?_getD, hx]
      rw [e1]
    · rw [if_neg e, handL_get deck P q r i hi]
      have e1 : handAt deck P q (r + 1) i = handAt deck P q r i := by
        unfold handAt
        by_cases h2 : i < r
        · rw [if_pos (by omega), if_pos h2]
        · rw [if_neg (by omega), if_neg h2]
      rw [e1]
  · rw [List.getElem?_eq_none (by rw [handL_len]; omega), List.getElem?_eq_none (by rw [List.length_set, handL_len]; omega)]
theorem handL_turn (deck : List Int) (P q : Nat) : handL deck P q P = handL deck P (q + 1) 0 := by
  apply List.map_congr_left
  intro p hp
  have := List.mem_range.1 hp
  unfold handAt
  rw [if_pos this, if_neg (by omega)]

theorem own_num {w : World} {B : Nat} {e : TypeId} {v : Value} {n : Nat} {vs : List Value} (h : w.ownsRow B e 1 v n vs) : vs.length = n := by simpa using h.1

theorem own_shape {w : World} {B : Nat} {e : TypeId} {sz : Nat} {v : Value} {n : Nat} {vs : List Value} (h : w.ownsRow B e sz v n vs) : ∃ ao c, v = .slice ao n c := by
  rcases h.2 with ⟨rfl, rfl⟩ | ⟨g, cap, cur, rfl, _⟩
  · exact ⟨none, 0, rfl⟩
  · exact ⟨_, _, rfl⟩

/-- the hands in memory -/
structure Hands (w : World) (B B3 hb P : Nat) (us : List Value) (xss : List (List Int)) : Prop where
  row : w.ownsRow B 22 1 (.slice (some ⟨hb, 0, none⟩) P P) P us
  lo : hb < B3
  len : xss.length = P
  each : ∀ (p : Nat) (u : Value) (xs : List Int), us[p]? = some u → xss[p]? = some xs → w.ownsRow B3 3 1 u xs.length (xs.map (Value.int .i64))
  dis : ∀ (p q : Nat) (u v : Value) (k : Nat), p ≠ q → us[p]? = some u → us[q]? = some v → u.ownBlock = some k → v.ownBlock ≠ some k

theorem Hands.ext {w w' : World} {B B3 hb P : Nat} {us : List Value} {xss : List (List Int)} (h : Hands w B B3 hb P us xss) (hx : Ext w w') : Hands w' B B3 hb P us xss :=
  { h with row := own_ext h.row hx, each := fun p u xs a b => own_ext (h.each p u xs a b) hx }

/-- one card more -/
theorem Hands.put {w w1 : World} {B B3 hb P : Nat} {us : List Value} {xss : List (List Int)} (h : Hands w B B3 hb P us xss) {r : Nat} {u v' : Value} {xs : List Int} {x : Int} (hu : us[r]? = some u) (hxs : xss[r]? = some xs)
    (ho : w1.ownsRow B3 3 1 v' (xs.length + 1) ((xs ++ [x]).map (Value.int .i64))) (hg : Grew w u w1 v') :
    Hands (w1.setCell ⟨hb, r, none⟩ v') B B3 hb P (us.set r v') (xss.set r (xs ++ [x])) ∧ (w1.frozen? ⟨hb, r, none⟩ = false) ∧ (∃ y, w1.cell? ⟨hb, r, none⟩ = some y) := by
  have hub : ∀ k, u.ownBlock = some k → B3 ≤ k := fun k hk => ((h.each r u xs hu hxs).lt k hk).1
  have hlo := h.lo
  have hrow1 := own_kept h.row hg.by' (.inl (by
    intro e
    have := hub hb (by simpa [Value.ownBlock] using e.symm)
    omega))
  have hrP : r < P := by have := (List.getElem?_eq_some_iff.1 hxs).1; rw [h.len] at this; exact this
  have hs := hrow1.stored r v'
  have hvb : ∀ k, v'.ownBlock = some k → B3 ≤ k := fun k hk => (ho.lt k hk).1
  have hful := own_num h.row
  refine ⟨⟨by simpa using hs.1, h.lo, by simpa using h.len, fun p y ys a b => ?_, fun p q y z k hpq a b hk => ?_⟩, hrow1.frozenAt r, ⟨us[r]'(by omega), own_cell hrow1 (List.getElem?_eq_getElem (by omega))⟩⟩
  · by_cases e : r = p
    · subst e
      rw [List.getElem?_set_self (by omega)] at a
      rw [List.getElem?_set_self (by rw [h.len]; exact hrP)] at b
      obtain rfl := Option.some.inj a
      obtain rfl := Option.some.inj b
      rw [List.length_append]
      exact own_kept ho hs.2 (.inl (fun e => by have := hvb hb (by simpa using e); omega))
    · rw [List.getElem?_set_ne e] at a b
      have h1 := h.each p y ys a b
      have h2 : ∀ k, y.ownBlock = some k → B3 ≤ k := fun k hk => (h1.lt k hk).1
      refine own_kept (own_kept h1 hg.by' ?_) hs.2 (.inl (fun e => by have := h2 hb (by simpa using e); omega))
      cases hy : y.ownBlock with
      | none => exact .inr rfl
      | some k => left; exact fun e2 => h.dis r p u y k e hu a (e2.symm) hy
  · have key : ∀ p', p' ≠ r → ∀ y, us[p']? = some y → ∀ k, v'.ownBlock = some k → y.ownBlock ≠ some k := by
      intro p' hp' y hy k hk hyk
      rcases hg.blk with e | e
      · rw [e] at hk
        exact h.dis r p' u y k (fun e => hp' e.symm) hu hy hk hyk
      · have := e k hk
        have h1 := h.each p' y _ hy (List.getElem?_eq_getElem (show p' < xss.length by have := (List.getElem?_eq_some_iff.1 hy).1; rw [h.len]; omega))
        have := (h1.lt k hyk).2
        omega
    by_cases e1 : r = p
    · subst e1
      rw [List.getElem?_set_self (by omega)] at a
      rw [List.getElem?_set_ne hpq] at b
      obtain rfl := Option.some.inj a
      exact key q (fun e => hpq e.symm) z b k hk
    · rw [List.getElem?_set_ne e1] at a
      by_cases e2 : r = q
      · subst e2
        rw [List.getElem?_set_self (by omega)] at b
        obtain rfl := Option.some.inj b
        exact fun hz => key p (fun e => e1 e.symm) y a k hz hk
      · rw [List.getElem?_set_ne e2] at b
        exact h.dis p q y z k hpq a b hk

theorem made_list (z : Value) (k : Nat) : (madeCells #[z] k).toList = List.replicate k z := by
  apply List.ext_getElem
  · simp [madeCells]
  · intro i h1 h2
    simp [madeCells, Nat.mod_one]

/-- a made row of k zero values -/
theorem own_mk0 (w W : World) (z : Value) (e : TypeId) (k : Nat) (hk : k ≤ 17592186044416) (hw : w.heap.size ≤ W.heap.size) :
    (W.alloc (.cells (madeCells #[z] k) e)).ownsRow w.heap.size e 1 (.slice (some ⟨W.heap.size, 0, none⟩) k k) k (List.replicate k z) := by
  have := World.ownsRow_lit (base := w.heap.size) (e := e) (size := 1) W (madeCells #[z] k) k hw (by unfold maxLen; omega) (by simp [madeCells])
  rw [made_list] at this
  exact this

theorem Hands.start (w : World) (xs : List Int) (p : Nat) (hp : p ≤ 52) : Hands (w.alloc (.cells (madeCells #[.slice none 0 0] p) 22)) w.heap.size (w.heap.size + 1) w.heap.size p (List.replicate p (.slice none 0 0)) (handL xs p 0 0) := by
  refine ⟨own_mk0 w w _ _ p (by omega) (Nat.le_refl _), by omega, handL_len _ _ _ _, fun i u ys a b => ?_, fun i j u v k _ a _ hk => ?_⟩
  · rw [handL_zero] at b
    obtain rfl := List.eq_of_mem_replicate (List.mem_of_getElem? a)
    obtain rfl := List.eq_of_mem_replicate (List.mem_of_getElem? b)
    exact World.ownsRow_nil _ _ _ _
  · obtain rfl := List.eq_of_mem_replicate (List.mem_of_getElem? a)
    simp [Value.ownBlock] at hk

theorem Hands.rows {w : World} {B B3 hb P : Nat} {us : List Value} {xss : List (List Int)} (h : Hands w B B3 hb P us xss) (hP : P ≤ 52) (hx : ∀ x ∈ xss, x.length ≤ 17592186044416) : Rows (Value.int .i64) w (.slice (some ⟨hb, 0, none⟩) P P) xss :=
  ⟨us, by have := own_row h.row (by omega); exact this, by rw [own_num h.row, h.len], fun i u xs a b => own_rowOf (h.each i u xs a b) (hx xs (List.mem_of_getElem? b))⟩
end Go.Proofs.YtllhgkacbpgemaaDoor
