/- plain: sums of a heap and of heaps that are divided -/
import Derived.Test.YtnmcljjfepngeaaLibB
namespace Go.Proofs.Ytnmcljjfepngeaa
open Go.RowKit
set_option linter.unusedVariables false

def hN (most n : Nat) : List Nat := (List.range (if most = 0 then n else min n most)).map fun k => n - (k + 1)
def ins : List Nat → Nat → List Nat
  | [], x => [x]
  | y :: t, x => if x ≤ y then x :: y :: t else y :: ins t x
def cutN (rest : List Nat) (x : Nat) : List (List Nat) := (List.range ((x - 1) / 2)).map fun a => ins (ins rest (a + 1)) (x - (a + 1))
def sNF (pre : List Nat) : List Nat → List (List Nat)
  | [] => []
  | x :: t => cutN (pre ++ t) x ++ sNF (pre ++ [x]) t
def sN (l : List Nat) : List (List Nat) := sNF [] l
def pN (most : Nat) (s : Nat × List Nat) : List (Nat × List Nat) := (hN most s.1).map (fun a => (a, s.2)) ++ (sN s.2).map fun b => (s.1, b)
/-- v is the least number that a list lacks -/
def isMex (v : Nat) (l : List Nat) : Bool := !l.contains v && (List.range v).all fun k => l.contains k
def tabS : List (List Nat × Nat) := [([0], 0), ([1], 0), ([2], 0), ([3], 1), ([4], 0), ([5], 2), ([6], 1), ([7], 0), ([1, 2], 0), ([1, 3], 1), ([1, 4], 0), ([2, 3], 1), ([1, 5], 2), ([2, 4], 0), ([1, 6], 1), ([2, 5], 2), ([3, 4], 1), ([1, 1, 2], 0), ([1, 1, 3], 1), ([1, 2, 2], 0), ([1, 1, 4], 0), ([1, 2, 3], 1), ([1, 1, 5], 2), ([1, 2, 4], 0), ([2, 2, 3], 1), ([1, 3, 3], 0), ([1, 1, 1, 2], 0), ([1, 1, 1, 3], 1), ([1, 1, 2, 2], 0), ([1, 1, 1, 4], 0), ([1, 1, 2, 3], 1), ([1, 2, 2, 2], 0), ([1, 1, 1, 1, 2], 0), ([1, 1, 1, 1, 3], 1), ([1, 1, 1, 2, 2], 0), ([1, 1, 1, 1, 1, 2], 0)]
def uS : List (List Nat) := tabS.map (·.1)
def uH : List Nat := List.range 10
def vS (l : List Nat) : Nat := (tabS.find? fun x => x.1 == l).elim 0 (·.2)
def vH (most n : Nat) : Nat := if most = 0 then n else n % (most + 1)
def uP : List (Nat × List Nat) := uH.flatMap fun n => uS.map fun l => (n, l)
def vP (most : Nat) (s : Nat × List Nat) : Nat := vH most s.1 ^^^ vS s.2
def rkS (s : List Nat) : Nat := 8 - s.length
def rkP (s : Nat × List Nat) : Nat := s.1 + rkS s.2

/-- a game on a set of states that ends: which values its states have -/
structure GmOk {S : Type} [DecidableEq S] (nx : S → List S) (U : List S) (val rk : S → Nat) : Prop where
  mex : ∀ s ∈ U, isMex (val s) ((nx s).map val) = true
  clo : ∀ s ∈ U, ∀ t ∈ nx s, t ∈ U ∧ rk t < rk s
theorem gmS : GmOk sN uS vS rkS := by
  have h : ∀ s ∈ uS, isMex (vS s) ((sN s).map vS) = true ∧ ∀ t ∈ sN s, t ∈ uS ∧ rkS t < rkS s := by decide +kernel
  exact ⟨fun s hs => (h s hs).1, fun s hs => (h s hs).2⟩
theorem gmH {m : Nat} (hm : m < 5) : GmOk (hN m) uH (vH m) id := by
  have h : ∀ m ∈ List.range 5, ∀ n ∈ uH, isMex (vH m n) ((hN m n).map (vH m)) = true ∧ ∀ t ∈ hN m n, t ∈ uH ∧ id t < id n := by decide +kernel
  exact ⟨fun s hs => (h m (List.mem_range.2 hm) s hs).1, fun s hs => (h m (List.mem_range.2 hm) s hs).2⟩
theorem gmP {m : Nat} (hm : m < 5) : GmOk (pN m) uP (vP m) rkP := by
  have h : ∀ m ∈ List.range 5, ∀ s ∈ uP, isMex (vP m s) ((pN m s).map (vP m)) = true ∧ ∀ t ∈ pN m s, t ∈ uP ∧ rkP t < rkP s := by decide +kernel
  exact ⟨fun s hs => (h m (List.mem_range.2 hm) s hs).1, fun s hs => (h m (List.mem_range.2 hm) s hs).2⟩
theorem isMex_iff {v : Nat} {l : List Nat} : isMex v l = true ↔ v ∉ l ∧ ∀ k, k < v → k ∈ l := by
  unfold isMex
  rw [Bool.and_eq_true, List.all_eq_true]
  simp
/-- 0 is the value of a state from which no 0 is reached -/
theorem GmOk.zero {S : Type} [DecidableEq S] {nx : S → List S} {U : List S} {val rk : S → Nat} (h : GmOk nx U val rk) {s : S} (hs : s ∈ U) : val s = 0 ↔ ∀ t ∈ nx s, val t ≠ 0 := by
  obtain ⟨h1, h2⟩ := isMex_iff.1 (h.mex s hs)
  constructor
  · intro e t ht e2
    exact h1 (List.mem_map.2 ⟨t, ht, by rw [e2, e]⟩)
  · intro hn
    by_cases e : val s = 0
    · exact e
    · obtain ⟨t, ht, e2⟩ := List.mem_map.1 (h2 0 (by omega))
      exact absurd e2 (hn t ht)

/-! ### what is known of the values -/
def kw (o : Option Int) : Nat := match o with | none => 0 | some k => if k < 0 then 1 else 2
def wgt {S : Type} (U : List S) (m : S → Option Int) : Nat := (U.map fun u => kw (m u)).sum
theorem wgt_le {S : Type} (U : List S) (m : S → Option Int) : wgt U m ≤ 2 * U.length := by
  unfold wgt
  induction U with
  | nil => exact Nat.le_refl _
  | cons u t ih =>
    rw [List.map_cons, List.sum_cons, List.length_cons]
    have : kw (m u) ≤ 2 := by unfold kw; split; omega; split <;> omega
    omega
def updM {S : Type} [DecidableEq S] (m : S → Option Int) (s : S) (k : Int) : S → Option Int := fun t => if t = s then some k else m t
theorem wgt_le_upd {S : Type} [DecidableEq S] {m : S → Option Int} {s : S} {k : Int} (h : kw (m s) ≤ kw (some k)) : ∀ U : List S, wgt U m ≤ wgt U (updM m s k)
  | [] => Nat.le_refl _
  | u :: t => by
    have ih := wgt_le_upd h t
    unfold wgt at ih ⊢
    rw [List.map_cons, List.sum_cons, List.map_cons, List.sum_cons]
    have : kw (m u) ≤ kw (updM m s k u) := by
      unfold updM
      by_cases e : u = s
      · rw [if_pos e, e]; exact h
      · rw [if_neg e]; exact Nat.le_refl _
    omega
theorem wgt_upd {S : Type} [DecidableEq S] {m : S → Option Int} {s : S} {k : Int} (h : kw (m s) < kw (some k)) : ∀ {U : List S}, s ∈ U → wgt U m + 1 ≤ wgt U (updM m s k)
  | u :: t, hs => by
    unfold wgt
    rw [List.map_cons, List.sum_cons, List.map_cons, List.sum_cons]
    by_cases e : u = s
    · have ih := wgt_le_upd (m := m) (s := s) (k := k) (by omega) t
      unfold wgt at ih
      have : kw (m u) + 1 ≤ kw (updM m s k u) := by unfold updM; rw [if_pos e, e]; exact h
      omega
    · have ih := wgt_upd h (U := t) ((List.mem_cons.1 hs).resolve_left (fun x => e x.symm))
      unfold wgt at ih
      have : kw (m u) ≤ kw (updM m s k u) := by unfold updM; rw [if_neg e]; exact Nat.le_refl _
      omega
/-- what is known says the values, or is being computed further up -/
def memoOk {S : Type} (U : List S) (val rk : S → Nat) (r : Nat) (m : S → Option Int) : Prop := ∀ t k, m t = some k → t ∈ U ∧ (k = (val t : Int) ∨ (k = -1 ∧ r < rk t))
/-- what has been learnt -/
structure Learnt {S : Type} (U : List S) (val rk : S → Nat) (r : Nat) (m m' : S → Option Int) : Prop where
  old : ∀ t k, m t = some k → m' t = some k
  new : ∀ t k, m' t = some k → m t = none → t ∈ U ∧ k = (val t : Int) ∧ rk t < r
theorem Learnt.refl {S : Type} {U : List S} {val rk : S → Nat} {r : Nat} (m : S → Option Int) : Learnt U val rk r m m := ⟨fun _ _ h => h, fun t k h h2 => by rw [h] at h2; cases h2⟩
theorem Learnt.trans {S : Type} {U : List S} {val rk : S → Nat} {r : Nat} {m m' m'' : S → Option Int} (h : Learnt U val rk r m m') (h' : Learnt U val rk r m' m'') : Learnt U val rk r m m'' :=
  ⟨fun t k e => h'.old t k (h.old t k e), fun t k e e2 => by
    cases h3 : m' t with
    | none => exact h'.new t k e h3
    | some j =>
      have := h'.old t j h3
      rw [this] at e
      obtain rfl := Option.some.inj e
      exact h.new t j h3 e2⟩
theorem Learnt.mono {S : Type} {U : List S} {val rk : S → Nat} {r r' : Nat} {m m' : S → Option Int} (h : Learnt U val rk r m m') (hr : r ≤ r') : Learnt U val rk r' m m' :=
  ⟨h.old, fun t k a b => by obtain ⟨x, y, z⟩ := h.new t k a b; exact ⟨x, y, by omega⟩⟩
theorem memoOk.learnt {S : Type} {U : List S} {val rk : S → Nat} {r r' : Nat} {m m' : S → Option Int} (h : memoOk U val rk r m) (hl : Learnt U val rk r' m m') : memoOk U val rk r m' := fun t k e => by
  cases h2 : m t with
  | none =>
    obtain ⟨a, b, _⟩ := hl.new t k e h2
    exact ⟨a, .inl b⟩
  | some j =>
    have := hl.old t j h2
    rw [this] at e
    obtain rfl := Option.some.inj e
    exact h t j h2
theorem memoOk.mono {S : Type} {U : List S} {val rk : S → Nat} {r r' : Nat} {m : S → Option Int} (h : memoOk U val rk r m) (hr : r' ≤ r) : memoOk U val rk r' m := fun t k e => by
  obtain ⟨a, b | ⟨b, c⟩⟩ := h t k e
  · exact ⟨a, .inl b⟩
  · exact ⟨a, .inr ⟨b, by omega⟩⟩
/-- a state that is being computed -/
theorem memoOk.busy {S : Type} [DecidableEq S] {U : List S} {val rk : S → Nat} {s : S} {m : S → Option Int} (h : memoOk U val rk (rk s) m) (hs : s ∈ U) {r : Nat} (hr : r < rk s) : memoOk U val rk r (updM m s (-1)) := fun t k e => by
  unfold updM at e
  by_cases h2 : t = s
  · rw [if_pos h2] at e
    obtain rfl := Option.some.inj e
    subst h2
    exact ⟨hs, .inr ⟨rfl, hr⟩⟩
  · rw [if_neg h2] at e
    exact (h.mono (Nat.le_of_lt hr)) t k e
/-- and has been computed -/
theorem learnt_done {S : Type} [DecidableEq S] {U : List S} {val rk : S → Nat} {s : S} {m m' : S → Option Int} (hs : s ∈ U) (hn : m s = none) (hl : Learnt U val rk (rk s) (updM m s (-1)) m') : Learnt U val rk (rk s + 1) m (updM m' s (val s : Int)) := by
  refine ⟨fun t k e => ?_, fun t k e e2 => ?_⟩
  · have h2 : t ≠ s := fun x => by rw [x, hn] at e; cases e
    unfold updM
    rw [if_neg h2]
    exact hl.old t k (by unfold updM; rw [if_neg h2]; exact e)
  · unfold updM at e
    by_cases h2 : t = s
    · rw [if_pos h2] at e
      obtain rfl := Option.some.inj e
      subst h2
      exact ⟨hs, rfl, by omega⟩
    · rw [if_neg h2] at e
      obtain ⟨a, b, c⟩ := hl.new t k e (by unfold updM; rw [if_neg h2]; exact e2)
      exact ⟨a, b, by omega⟩
end Go.Proofs.Ytnmcljjfepngeaa
