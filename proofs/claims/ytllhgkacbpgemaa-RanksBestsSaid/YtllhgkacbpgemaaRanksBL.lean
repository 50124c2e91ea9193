/- plain law: the best five, as the search finds them and as the law names them -/
import Derived.Test.YtllhgkacbpgemaaRanksWL
namespace Go.Proofs.Ytllhgkacbpgemaa
open Go.RowKit
set_option linter.unusedVariables false

def cmpL : List Nat → List Nat → Int
  | [], [] => 0
  | [], _ :: _ => -1
  | _ :: _, [] => 1
  | a :: t, b :: u => if a = b then cmpL t u else if a < b then -1 else 1

theorem cmpL_self : ∀ a, cmpL a a = 0
  | [] => rfl
  | x :: a => by rw [cmpL, if_pos rfl, cmpL_self a]
theorem cmpL_eq : ∀ {a b}, cmpL a b = 0 → a = b
  | [], [], _ => rfl
  | [], _ :: _, h => by simp [cmpL] at h
  | _ :: _, [], h => by simp [cmpL] at h
  | x :: a, y :: b, h => by
    rw [cmpL] at h
    split at h
    · rename_i e; rw [e, cmpL_eq h]
    · split at h <;> simp at h
theorem cmpL_neg : ∀ a b, cmpL b a = - cmpL a b
  | [], [] => rfl
  | [], _ :: _ => rfl
  | _ :: _, [] => rfl
  | x :: a, y :: b => by
    rw [cmpL, cmpL]
    by_cases e : x = y
    · rw [if_pos e, if_pos e.symm, cmpL_neg a b]
    · rw [if_neg e, if_neg (fun h => e h.symm)]
      by_cases h : x < y
      · rw [if_pos h, if_neg (by omega)]; rfl
      · rw [if_neg h, if_pos (by omega)]
theorem cmpL_trans : ∀ {a b c}, cmpL a b ≤ 0 → cmpL b c ≤ 0 → cmpL a c ≤ 0
  | [], _, [], _, _ => by simp [cmpL]
  | [], _, _ :: _, _, _ => by simp [cmpL]
  | x :: a, [], c, h, _ => by simp [cmpL] at h
  | x :: a, y :: b, [], _, h => by simp [cmpL] at h
  | x :: a, y :: b, z :: c, h1, h2 => by
    rw [cmpL] at h1 h2 ⊢
    by_cases e1 : x = y
    · subst e1
      rw [if_pos rfl] at h1
      by_cases e2 : x = z
      · subst e2
        rw [if_pos rfl] at h2 ⊢
        exact cmpL_trans h1 h2
      · rw [if_neg e2] at h2 ⊢; exact h2
    · rw [if_neg e1] at h1
      have hxy : x < y := by
        by_cases h : x < y
        · exact h
        · rw [if_neg h] at h1; omega
      by_cases e2 : y = z
      · subst e2
        rw [if_neg (by omega), if_pos hxy]; omega
      · rw [if_neg e2] at h2
        have hyz : y < z := by
          by_cases h : y < z
          · exact h
          · rw [if_neg h] at h2; omega
        rw [if_neg (by omega), if_pos (by omega)]; omega

structure Opt (val : List Nat → Int) (P : List (List Nat)) (st : List Nat × Int) : Prop where
  mem : st.1 ∈ P
  v : st.2 = val st.1
  top : ∀ x ∈ P, val x ≤ st.2
  tie : ∀ x ∈ P, val x = st.2 → cmpL st.1 x ≤ 0

theorem Opt.uniq {val : List Nat → Int} {P Q : List (List Nat)} {a b : List Nat × Int} (ha : Opt val P a) (hb : Opt val Q b) (h : ∀ x, x ∈ P ↔ x ∈ Q) : a = b := by
  have h1 := hb.top a.1 ((h _).1 ha.mem)
  have h2 := ha.top b.1 ((h _).2 hb.mem)
  rw [← ha.v] at h1
  rw [← hb.v] at h2
  have e2 : a.2 = b.2 := by omega
  have t1 := ha.tie b.1 ((h _).2 hb.mem) (by rw [← hb.v, e2])
  have t2 := hb.tie a.1 ((h _).1 ha.mem) (by rw [← ha.v, e2])
  have := cmpL_neg a.1 b.1
  have e1 : a.1 = b.1 := cmpL_eq (by omega)
  exact Prod.ext e1 e2

def updV (val : List Nat → Int) (st : List Nat × Int) (pl : List Nat) : List Nat × Int := if st.2 < val pl then (pl, val pl) else st
def updW (val : List Nat → Int) (st : List Nat × Int) (pl : List Nat) : List Nat × Int :=
  if pl.length = 5 then (if st.2 < val pl ∨ (val pl = st.2 ∧ cmpL pl st.1 < 0) then (pl, val pl) else st) else st

theorem Opt.new {val : List Nat → Int} {P : List (List Nat)} {st : List Nat × Int} {y : List Nat} (h : Opt val P st) (hy : st.2 < val y) : Opt val (P ++ [y]) (y, val y) := by
  refine ⟨by simp, rfl, fun x hx => ?_, fun x hx e => ?_⟩
  · rcases List.mem_append.1 hx with hx | hx
    · have := h.top x hx; simp; omega
    · simp at hx; subst hx; exact Int.le_refl _
  · rcases List.mem_append.1 hx with hx | hx
    · have := h.top x hx; simp at e; omega
    · simp at hx; subst hx; rw [cmpL_self]; exact Int.le_refl _
theorem Opt.stay {val : List Nat → Int} {P : List (List Nat)} {st : List Nat × Int} {y : List Nat} (h : Opt val P st) (hy : val y ≤ st.2) (ht : val y = st.2 → cmpL st.1 y ≤ 0) : Opt val (P ++ [y]) st := by
  refine ⟨by simp [h.mem], h.v, fun x hx => ?_, fun x hx e => ?_⟩
  · rcases List.mem_append.1 hx with hx | hx
    · exact h.top x hx
    · simp at hx; subst hx; exact hy
  · rcases List.mem_append.1 hx with hx | hx
    · exact h.tie x hx e
    · simp at hx; subst hx; exact ht e

theorem opt_V {val : List Nat → Int} : ∀ (T P : List (List Nat)) (st : List Nat × Int), Opt val P st → (P ++ T).Pairwise (fun a b => cmpL a b < 0) → Opt val (P ++ T) (T.foldl (updV val) st)
  | [], P, st, h, _ => by simpa using h
  | y :: T, P, st, h, hp => by
    rw [List.foldl_cons, show P ++ y :: T = (P ++ [y]) ++ T by simp]
    refine opt_V T (P ++ [y]) _ ?_ (by simpa using hp)
    unfold updV
    split
    · rename_i hlt; exact h.new hlt
    · rename_i hlt
      refine h.stay (by omega) (fun _ => ?_)
      have := (List.pairwise_append.1 hp).2.2 st.1 h.mem y (by simp)
      omega

theorem opt_W {val : List Nat → Int} : ∀ (T P : List (List Nat)) (st : List Nat × Int), Opt val P st → Opt val (P ++ T.filter (fun x => x.length == 5)) (T.foldl (updW val) st)
  | [], P, st, h => by simpa using h
  | y :: T, P, st, h => by
    rw [List.foldl_cons]
    by_cases h5 : y.length = 5
    · have e : (y :: T).filter (fun x => x.length == 5) = y :: T.filter (fun x => x.length == 5) := by simp [h5]
      rw [e, show P ++ y :: T.filter (fun x => x.length == 5) = (P ++ [y]) ++ T.filter (fun x => x.length == 5) by simp]
      refine opt_W T (P ++ [y]) _ ?_
      unfold updW
      rw [if_pos h5]
      by_cases h1 : st.2 < val y
      · rw [if_pos (.inl h1)]; exact h.new h1
      · by_cases h2 : val y = st.2 ∧ cmpL y st.1 < 0
        · rw [if_pos (.inr h2)]
          obtain ⟨h3, h4⟩ := h2
          refine ⟨by simp, rfl, fun x hx => ?_, fun x hx e => ?_⟩
          · rcases List.mem_append.1 hx with hx | hx
            · have := h.top x hx; simp; omega
            · simp at hx; subst hx; exact Int.le_refl _
          · rcases List.mem_append.1 hx with hx | hx
            · exact cmpL_trans (by omega : cmpL y st.1 ≤ 0) (h.tie x hx (by simp at e; omega))
            · simp at hx; subst hx; rw [cmpL_self]; exact Int.le_refl _
        · rw [if_neg (by omega)]
          refine h.stay (by omega) (fun e => ?_)
          have := cmpL_neg st.1 y
          omega
    · have e : (y :: T).filter (fun x => x.length == 5) = T.filter (fun x => x.length == 5) := by simp [h5]
      rw [e]
      have e2 : updW val st y = st := by rw [updW, if_neg h5]
      rw [e2]
      exact opt_W T P st h

theorem opt_V0 {val : List Nat → Int} {L : List (List Nat)} (h0 : ∀ x ∈ L, 0 ≤ val x) (hne : L ≠ []) (hp : L.Pairwise (fun a b => cmpL a b < 0)) : Opt val L (L.foldl (updV val) ([], -1)) := by
  cases L with
  | nil => exact absurd rfl hne
  | cons y T =>
    rw [List.foldl_cons]
    have hy := h0 y (by simp)
    have e : updV val ([], -1) y = (y, val y) := by rw [updV, if_pos (by simp; omega)]
    rw [e]
    refine opt_V T [y] _ ⟨by simp, rfl, fun x hx => ?_, fun x hx _ => ?_⟩ hp
    · simp at hx; subst hx; exact Int.le_refl _
    · simp at hx; subst hx; rw [cmpL_self]; exact Int.le_refl _

theorem opt_W0 {val : List Nat → Int} : ∀ {T : List (List Nat)}, (∀ x ∈ T.filter (fun x => x.length == 5), 0 ≤ val x) → T.filter (fun x => x.length == 5) ≠ [] → Opt val (T.filter (fun x => x.length == 5)) (T.foldl (updW val) ([], -1))
  | [], _, hne => absurd rfl hne
  | y :: T, h0, hne => by
    rw [List.foldl_cons]
    by_cases h5 : y.length = 5
    · have e : (y :: T).filter (fun x => x.length == 5) = [y] ++ T.filter (fun x => x.length == 5) := by simp [h5]
      have hy := h0 y (by rw [e]; simp)
      rw [e]
      have e2 : updW val ([], -1) y = (y, val y) := by rw [updW, if_pos h5, if_pos (.inl (by simp; omega))]
      rw [e2]
      refine opt_W T [y] _ ⟨by simp, rfl, fun x hx => ?_, fun x hx _ => ?_⟩
      · simp at hx; subst hx; exact Int.le_refl _
      · simp at hx; subst hx; rw [cmpL_self]; exact Int.le_refl _
    · have e : (y :: T).filter (fun x => x.length == 5) = T.filter (fun x => x.length == 5) := by simp [h5]
      rw [e] at h0 hne ⊢
      have e2 : updW val ([], -1) y = ([], -1) := by rw [updW, if_neg h5]
      rw [e2]
      exact opt_W0 h0 hne

def bitN (s i : Nat) : Bool := s / 2 ^ i % 2 == 1
def plS (n s : Nat) : List Nat := (List.range n).filter (bitN s)
def masks (n : Nat) : List (List Nat) := (List.range (2 ^ n)).map (plS n)
def chkC (n : Nat) : Bool :=
  decide ((combos n 0 []).Pairwise (fun a b => cmpL a b < 0)) && (combos n 0 []).all (fun x => decide x.Nodup && x.all (fun p => decide (p < n)) && ((masks n).filter (fun x => x.length == 5)).contains x) &&
    ((masks n).filter (fun x => x.length == 5)).all (fun x => (combos n 0 []).contains x) && !(combos n 0 []).isEmpty
theorem chkC5 : chkC 5 = true := by decide +kernel
theorem chkC6 : chkC 6 = true := by decide +kernel
theorem chkC7 : chkC 7 = true := by decide +kernel
theorem chkC8 : chkC 8 = true := by decide +kernel
theorem chkC9 : chkC 9 = true := by decide +kernel
theorem chkC_all (n : Nat) (h1 : 5 ≤ n) (h2 : n ≤ 9) : chkC n = true := by
  have : n = 5 ∨ n = 6 ∨ n = 7 ∨ n = 8 ∨ n = 9 := by omega
  rcases this with rfl | rfl | rfl | rfl | rfl
  · exact chkC5
  · exact chkC6
  · exact chkC7
  · exact chkC8
  · exact chkC9

def lawB (l : List Int) : List Nat × Int := (masks l.length).foldl (updW (fun pl => valueR (atP l pl))) ([], -1)

theorem bests_law {l : List Int} (hd : deckErr l = 0) (h5 : 5 ≤ l.length) (h9 : l.length ≤ 9) : lawB l = bestF l := by
  obtain ⟨_, hrg, hnd⟩ := deckErr_zero hd
  have hk := chkC_all l.length h5 h9
  simp only [chkC, Bool.and_eq_true, decide_eq_true_eq, List.all_eq_true, Bool.not_eq_true', List.isEmpty_eq_false_iff] at hk
  obtain ⟨⟨⟨k1, k2⟩, k3⟩, k4⟩ := hk
  have h0 : ∀ x ∈ combos l.length 0 [], 0 ≤ valueR (atP l x) := by
    intro x hx
    obtain ⟨⟨a, b⟩, _⟩ := k2 x hx
    exact value_ge (atP_ok hrg hnd b a (combos_len _ _ _ (by simp) x hx))
  have hm : ∀ x, x ∈ (masks l.length).filter (fun x => x.length == 5) ↔ x ∈ combos l.length 0 [] := by
    intro x
    constructor
    · intro hx; simpa using k3 x hx
    · intro hx; simpa using (k2 x hx).2
  have hV := opt_V0 h0 k4 k1
  have hW := opt_W0 (val := fun pl => valueR (atP l pl)) (T := masks l.length) (fun x hx => h0 x ((hm x).1 hx)) (by
    intro e
    obtain ⟨y, t, hy⟩ := List.exists_cons_of_ne_nil k4
    have := (hm y).2 (by rw [hy]; simp)
    rw [e] at this; cases this)
  exact hW.uniq hV hm
end Go.Proofs.Ytllhgkacbpgemaa
