/- the plain laws of placements: no program in sight -/
import Derived.Below
namespace Go.Proofs.Ytllhgkacbpgemaa
open Go.RowKit

/-- k rounds of the inner loop -/
def wIn (o n : Nat) : Nat → Nat
  | 0 => o
  | k + 1 => wIn o n k * (n + k + 1) / (k + 1)
/-- the number of placements, as it is computed -/
def waysN (l : List Nat) : Nat := (l.foldl (fun (q : Nat × Nat) c => (wIn q.1 q.2 c, q.2 + c)) (1, 0)).1

def fac : Nat → Nat
  | 0 => 1
  | n + 1 => fac n * (n + 1)

theorem fac_pos (n : Nat) : 0 < fac n := by
  induction n with
  | zero => decide
  | succ n ih => exact Nat.mul_pos ih (by omega)

theorem fac_mono {a b : Nat} (h : a ≤ b) : fac a ≤ fac b := by
  induction b with
  | zero => have : a = 0 := by omega
            subst this; exact Nat.le_refl _
  | succ b ih =>
    by_cases e : a = b + 1
    · subst e; exact Nat.le_refl _
    · exact Nat.le_trans (ih (by omega)) (Nat.le_mul_of_pos_right _ (by omega))

theorem wIn_le (o n k : Nat) (h : o ≤ fac n) : wIn o n k ≤ fac (n + k) := by
  induction k with
  | zero => simpa [wIn] using h
  | succ k ih =>
    simp only [wIn]
    refine Nat.le_trans (Nat.div_le_self _ _) ?_
    show _ ≤ fac (n + k) * (n + k + 1)
    exact Nat.mul_le_mul_right _ ih

/-- binomials by Pascal's rule -/
def ch : Nat → Nat → Nat
  | _, 0 => 1
  | 0, _ + 1 => 0
  | n + 1, k + 1 => ch n k + ch n (k + 1)

theorem ch_mul (n : Nat) : ∀ k, ch (n + 1) (k + 1) * (k + 1) = ch n k * (n + 1) := by
  induction n with
  | zero => intro k; cases k <;> simp [ch]
  | succ n ih =>
    intro k
    cases k with
    | zero =>
      have := ih 0
      simp [ch] at this ⊢
      omega
    | succ k =>
      have h1 := ih k
      have h2 := ih (k + 1)
      have e1 : ch (n + 1 + 1) (k + 1 + 1) = ch (n + 1) (k + 1) + ch (n + 1) (k + 1 + 1) := rfl
      rw [e1, Nat.add_mul, h2]
      have e2 : ch (n + 1) (k + 1) * (k + 1 + 1) = ch (n + 1) (k + 1) * (k + 1) + ch (n + 1) (k + 1) := by rw [Nat.mul_add, Nat.mul_one]
      rw [e2, h1]
      have e3 : ch (n + 1) (k + 1) = ch n k + ch n (k + 1) := rfl
      rw [e3]
      simp only [Nat.add_mul, Nat.mul_add, Nat.mul_one]
      omega

theorem wIn_eq (o n k : Nat) : wIn o n k = o * ch (n + k) k := by
  induction k with
  | zero => simp [wIn, ch]
  | succ k ih =>
    simp only [wIn, ih]
    have h := ch_mul (n + k) k
    have e : o * ch (n + k) k * (n + k + 1) = o * ch (n + k + 1) (k + 1) * (k + 1) := by
      rw [Nat.mul_assoc, ← h, Nat.mul_assoc]
    rw [e, Nat.mul_div_cancel _ (by omega)]
    rfl

theorem ch_fac (n k : Nat) : ch (n + k) k * fac k * fac n = fac (n + k) := by
  induction k with
  | zero => simp [ch, fac]
  | succ k ih =>
    have h := ch_mul (n + k) k
    have e1 : fac (k + 1) = fac k * (k + 1) := rfl
    have e2 : fac (n + (k + 1)) = fac (n + k) * (n + k + 1) := rfl
    rw [e1, e2, ← ih]
    show ch (n + k + 1) (k + 1) * (fac k * (k + 1)) * fac n = _
    have : ch (n + k + 1) (k + 1) * (fac k * (k + 1)) * fac n = ch (n + k + 1) (k + 1) * (k + 1) * (fac k * fac n) := by ac_rfl
    rw [this, h]; ac_rfl

/-- the product of the factorials -/
def facs (l : List Nat) : Nat := l.foldr (fun c r => fac c * r) 1

theorem facs_pos (l : List Nat) : 0 < facs l := by
  induction l with
  | nil => decide
  | cons c l ih => exact Nat.mul_pos (fac_pos c) ih

theorem ways_fac0 (l : List Nat) : ∀ q : Nat × Nat, (l.foldl (fun (q : Nat × Nat) c => (wIn q.1 q.2 c, q.2 + c)) q).1 * facs l * fac q.2 = q.1 * fac (q.2 + l.sum) := by
  induction l with
  | nil => intro q; simp [facs]
  | cons c l ih =>
    intro q
    have h := ih (wIn q.1 q.2 c, q.2 + c)
    simp only [List.foldl_cons, List.sum_cons]
    simp only at h
    have e : facs (c :: l) = fac c * facs l := rfl
    rw [e]
    generalize (l.foldl (fun (q : Nat × Nat) c => (wIn q.1 q.2 c, q.2 + c)) (wIn q.1 q.2 c, q.2 + c)).1 = X at *
    rw [wIn_eq] at h
    have h2 := ch_fac q.2 c
    have h3 : X * (fac c * facs l) * fac q.2 * fac (q.2 + c) = q.1 * fac (q.2 + (c + l.sum)) * fac (q.2 + c) := by
      have e1 : X * (fac c * facs l) * fac q.2 * fac (q.2 + c) = X * facs l * fac (q.2 + c) * (fac c * fac q.2) := by ac_rfl
      rw [e1, h, Nat.add_assoc]
      have e2 : q.1 * ch (q.2 + c) c * fac (q.2 + (c + l.sum)) * (fac c * fac q.2) = q.1 * fac (q.2 + (c + l.sum)) * (ch (q.2 + c) c * fac c * fac q.2) := by ac_rfl
      rw [e2, h2]
    exact Nat.eq_of_mul_eq_mul_right (fac_pos _) h3

theorem ways_fac (l : List Nat) : waysN l * facs l = fac l.sum := by
  have := ways_fac0 l (1, 0)
  simpa [waysN, fac] using this

theorem waysN_pos (l : List Nat) : 0 < waysN l := by
  have h := ways_fac l
  have h2 := fac_pos l.sum
  rw [← h] at h2
  exact Nat.pos_of_mul_pos_right h2

/-- one less of a kind -/
def dec1 (l : List Nat) (k : Nat) : List Nat := l.set k (l.getD k 0 - 1)

theorem dec1_len (l : List Nat) (k : Nat) : (dec1 l k).length = l.length := by simp [dec1]

theorem dec1_sum (l : List Nat) (k : Nat) (h : 0 < l.getD k 0) : (dec1 l k).sum + 1 = l.sum := by
  induction l generalizing k with
  | nil => simp at h
  | cons c l ih =>
    cases k with
    | zero => simp [dec1] at h ⊢; omega
    | succ k =>
      have := ih k (by simpa using h)
      simp only [dec1, List.set_cons_succ, List.getD_cons_succ, List.sum_cons] at this ⊢
      omega

theorem dec1_facs (l : List Nat) (k : Nat) (h : 0 < l.getD k 0) : facs (dec1 l k) * l.getD k 0 = facs l := by
  induction l generalizing k with
  | nil => simp at h
  | cons c l ih =>
    cases k with
    | zero =>
      simp only [List.getD_cons_zero] at h
      obtain ⟨d, rfl⟩ : ∃ d, c = d + 1 := ⟨c - 1, by omega⟩
      simp only [dec1, List.set_cons_zero, List.getD_cons_zero, Nat.add_sub_cancel]
      show fac d * facs l * (d + 1) = fac d * (d + 1) * facs l
      ac_rfl
    | succ k =>
      have := ih k (by simpa using h)
      simp only [dec1, List.set_cons_succ, List.getD_cons_succ] at this ⊢
      show fac c * facs _ * _ = fac c * facs l
      rw [← this]; simp only [Nat.mul_assoc]

/-- the numbers of the placements that begin with a smaller kind -/
def rIn (l : List Nat) : Nat → Nat
  | 0 => 0
  | c + 1 => rIn l c + if 0 < l.getD c 0 then waysN (dec1 l c) else 0

theorem rIn_facs (l : List Nat) (hs : 0 < l.sum) (c : Nat) (hc : c ≤ l.length) : rIn l c * facs l = fac (l.sum - 1) * (l.take c).sum := by
  induction c with
  | zero => simp [rIn]
  | succ c ih =>
    have ih := ih (by omega)
    have hlt : c < l.length := by omega
    simp only [rIn, Nat.add_mul, ih, List.take_succ_eq_append_getElem hlt, List.sum_append, List.sum_cons, List.sum_nil, Nat.mul_add, Nat.add_zero]
    congr 1
    have hg : l.getD c 0 = l[c] := by simp [List.getD_eq_getElem?_getD, hlt]
    split
    · rename_i h
      have h1 := ways_fac (dec1 l c)
      have h2 := dec1_facs l c h
      have h3 := dec1_sum l c h
      have h4 : l.sum - 1 = (dec1 l c).sum := by omega
      rw [h4, ← h1, ← h2, hg]; ac_rfl
    · rename_i h
      have : l[c] = 0 := by omega
      simp [this]

theorem rIn_all (l : List Nat) (hs : 0 < l.sum) : rIn l l.length = waysN l := by
  have h1 := rIn_facs l hs l.length (Nat.le_refl _)
  have h2 := ways_fac l
  rw [List.take_length] at h1
  obtain ⟨s, hs2⟩ : ∃ s, l.sum = s + 1 := ⟨l.sum - 1, by omega⟩
  rw [hs2] at h1 h2
  simp only [Nat.add_sub_cancel] at h1
  have h3 : rIn l l.length * facs l = waysN l * facs l := by rw [h1, h2]; rfl
  exact Nat.eq_of_mul_eq_mul_right (facs_pos l) h3

theorem waysN_zero (l : List Nat) (hs : l.sum = 0) : waysN l = 1 := by
  have h := ways_fac l
  rw [hs] at h
  exact Nat.eq_one_of_mul_eq_one_right h

/-! ### all placements -/
/-- those that begin with a kind -/
def plF : Nat → List Nat → List (List Nat)
  | 0, _ => [[]]
  | s + 1, l => (List.range l.length).flatMap fun c => if l.getD c 0 = 0 then [] else (plF s (dec1 l c)).map (c :: ·)

theorem flatMap_range_len {α : Type} (f : Nat → List α) (g : Nat → Nat) (h0 : g 0 = 0) (m : Nat) (h : ∀ c, c < m → g (c + 1) = g c + (f c).length) : ((List.range m).flatMap f).length = g m := by
  induction m with
  | zero => simp [h0]
  | succ m ih =>
    rw [List.range_succ, List.flatMap_append, List.length_append, ih (fun c hc => h c (by omega)), h m (by omega)]
    simp

theorem flatMap_range_get {α : Type} (f : Nat → List α) (g : Nat → Nat) (h0 : g 0 = 0) (m : Nat) (h : ∀ c, c < m → g (c + 1) = g c + (f c).length) (c : Nat) (hc : c < m) (i : Nat) (hi : i < (f c).length) :
    ((List.range m).flatMap f)[g c + i]? = (f c)[i]? := by
  induction m with
  | zero => omega
  | succ m ih =>
    rw [List.range_succ, List.flatMap_append]
    have hl := flatMap_range_len f g h0 m (fun c hc => h c (by omega))
    by_cases e : c = m
    · subst e
      rw [List.getElem?_append_right (by omega), hl]
      simp
    · have hmono : ∀ d, c < d → d ≤ m → g c + (f c).length ≤ g d := by
        intro d hd
        induction d with
        | zero => omega
        | succ d ihd =>
          intro hdm
          by_cases e2 : d = c
          · subst e2; rw [h d (by omega)]; exact Nat.le_refl _
          · have := ihd (by omega) (by omega)
            rw [h d (by omega)]; omega
      have := hmono m (by omega) (Nat.le_refl _)
      rw [List.getElem?_append_left (by omega)]
      exact ih (fun c hc => h c (by omega)) (by omega)

theorem flatMap_range_inv {α : Type} (f : Nat → List α) (g : Nat → Nat) (h0 : g 0 = 0) (m : Nat) (h : ∀ c, c < m → g (c + 1) = g c + (f c).length) (j : Nat) (hj : j < g m) :
    ∃ c i, c < m ∧ i < (f c).length ∧ j = g c + i := by
  induction m with
  | zero => omega
  | succ m ih =>
    rw [h m (by omega)] at hj
    by_cases e : j < g m
    · obtain ⟨c, i, h1, h2, h3⟩ := ih (fun c hc => h c (by omega)) e
      exact ⟨c, i, by omega, h2, h3⟩
    · exact ⟨m, j - g m, by omega, by omega, by omega⟩

/-- the number of a placement -/
def rankF : List Nat → List Nat → Nat
  | _, [] => 0
  | l, c :: cs => rIn l c + rankF (dec1 l c) cs

/-- a placement with these counts -/
inductive Has : List Nat → List Nat → Prop
  | nil (l : List Nat) : l.sum = 0 → Has l []
  | cons (l : List Nat) (c : Nat) (cs : List Nat) : 0 < l.getD c 0 → Has (dec1 l c) cs → Has l (c :: cs)

theorem getD_lt {l : List Nat} {c : Nat} (h : 0 < l.getD c 0) : c < l.length := by
  rcases Nat.lt_or_ge c l.length with h1 | h1
  · exact h1
  · simp [List.getD_eq_getElem?_getD, List.getElem?_eq_none h1] at h

theorem plF_all (s : Nat) : ∀ l : List Nat, l.sum = s → (plF s l).length = waysN l ∧ (∀ xs, Has l xs → (plF s l)[rankF l xs]? = some xs ∧ rankF l xs < waysN l) ∧ (∀ j, j < waysN l → ∃ xs, Has l xs ∧ rankF l xs = j) := by
  induction s with
  | zero =>
    intro l hl
    refine ⟨by simp [plF, waysN_zero l hl], ?_, ?_⟩
    · intro xs h
      cases h with
      | nil => simp [plF, rankF, waysN_zero l hl]
      | cons _ c cs h1 h2 => have := dec1_sum l c h1; omega
    · intro j hj
      rw [waysN_zero l hl] at hj
      exact ⟨[], .nil l hl, by simp [rankF]; omega⟩
  | succ s ih =>
    intro l hl
    have ihc : ∀ c, 0 < l.getD c 0 → _ := fun c hc => ih (dec1 l c) (by have := dec1_sum l c hc; omega)
    have hstep : ∀ c, c < l.length → rIn l (c + 1) = rIn l c + ((fun c => if l.getD c 0 = 0 then [] else (plF s (dec1 l c)).map (c :: ·)) c).length := by
      intro c hc
      simp only [rIn]
      congr 1
      split
      · rename_i h
        rw [if_neg (by omega), List.length_map, (ihc c h).1]
      · rename_i h
        rw [if_pos (by omega)]; rfl
    have hlen : (plF (s + 1) l).length = waysN l := by
      rw [plF, flatMap_range_len _ (rIn l) rfl l.length hstep, rIn_all l (by omega)]
    refine ⟨hlen, ?_, ?_⟩
    · intro xs h
      cases h with
      | nil _ h0 => omega
      | cons _ c cs h1 h2 =>
        have hc := getD_lt h1
        obtain ⟨g1, g2, g3⟩ := ihc c h1
        obtain ⟨g4, g5⟩ := g2 cs h2
        have hi : rankF (dec1 l c) cs < ((fun c => if l.getD c 0 = 0 then [] else (plF s (dec1 l c)).map (c :: ·)) c).length := by
          simp only
          rw [if_neg (by omega), List.length_map, g1]; exact g5
        have hg := flatMap_range_get _ (rIn l) rfl l.length hstep c hc _ hi
        simp only [rankF]
        have hsome : (plF (s + 1) l)[rIn l c + rankF (dec1 l c) cs]? = some (c :: cs) := by
          rw [plF, hg, if_neg (by omega), List.getElem?_map, g4]; rfl
        refine ⟨hsome, ?_⟩
        have := (List.getElem?_eq_some_iff.1 hsome).1
        omega
    · intro j hj
      rw [← rIn_all l (by omega)] at hj
      obtain ⟨c, i, hc, hi, rfl⟩ := flatMap_range_inv _ (rIn l) rfl l.length hstep j hj
      split at hi
      · simp at hi
      · rename_i h0
        rw [List.length_map, (ihc c (by omega)).1] at hi
        obtain ⟨xs, hx, hr⟩ := (ihc c (by omega)).2.2 i hi
        exact ⟨c :: xs, .cons l c xs (by omega) hx, by simp [rankF, hr]⟩

theorem rankF_inj {l xs ys : List Nat} (hx : Has l xs) (hy : Has l ys) (h : rankF l xs = rankF l ys) : xs = ys := by
  have h1 := ((plF_all l.sum l rfl).2.1 xs hx).1
  have h2 := ((plF_all l.sum l rfl).2.1 ys hy).1
  rw [h, h2] at h1
  exact (Option.some.inj h1).symm

/-! ### the placement with a number -/
/-- one kind is picked: the rest of the number and the kind -/
def pickF (l : List Nat) : Nat → Nat → Nat → Nat × Option Nat
  | 0, _, n => (n, none)
  | r + 1, k, n => if l.getD k 0 = 0 then pickF l r (k + 1) n else if waysN (dec1 l k) ≤ n then pickF l r (k + 1) (n - waysN (dec1 l k)) else (n, some k)

def unrF : Nat → List Nat → Nat → List Nat
  | 0, _, _ => []
  | s + 1, l, n => match pickF l l.length 0 n with
    | (n', some k) => k :: unrF s (dec1 l k) n'
    | (n', none) => unrF s l n'

theorem pickF_eq (l : List Nat) (c i : Nat) (hc : 0 < l.getD c 0) (hi : i < waysN (dec1 l c)) : ∀ r k, k ≤ c → c < k + r → pickF l r k (rIn l c + i - rIn l k) = (i, some c) := by
  have hmono : ∀ a b, a ≤ b → rIn l a ≤ rIn l b := by
    intro a b hab
    induction b with
    | zero => have : a = 0 := by omega
              subst this; exact Nat.le_refl _
    | succ b ih =>
      by_cases e : a = b + 1
      · subst e; exact Nat.le_refl _
      · have := ih (by omega); simp only [rIn]; omega
  intro r
  induction r with
  | zero => intro k h1 h2; omega
  | succ r ih =>
    intro k h1 h2
    simp only [pickF]
    by_cases e : k = c
    · subst e
      rw [if_neg (by omega), if_neg (by omega)]
      congr 1; omega
    · have hk := ih (k + 1) (by omega) (by omega)
      simp only [rIn] at hk
      have hle := hmono (k + 1) c (by omega)
      simp only [rIn] at hle
      by_cases h0 : l.getD k 0 = 0
      · rw [if_pos h0]
        rw [if_neg (by omega)] at hk
        simpa using hk
      · rw [if_pos (by omega)] at hk hle
        rw [if_neg h0, if_pos (by omega)]
        rw [← Nat.sub_sub] at hk
        exact hk

theorem unrF_eq (s : Nat) : ∀ (l xs : List Nat), l.sum = s → Has l xs → unrF s l (rankF l xs) = xs := by
  induction s with
  | zero =>
    intro l xs hl h
    cases h with
    | nil => rfl
    | cons _ c cs h1 h2 => have := dec1_sum l c h1; omega
  | succ s ih =>
    intro l xs hl h
    cases h with
    | nil _ h0 => omega
    | cons _ c cs h1 h2 =>
      have hs : (dec1 l c).sum = s := by have := dec1_sum l c h1; omega
      have hr := ((plF_all s (dec1 l c) hs).2.1 cs h2).2
      have hp := pickF_eq l c (rankF (dec1 l c) cs) h1 hr l.length 0 (by omega) (by have := getD_lt h1; omega)
      simp only [rIn, Nat.sub_zero] at hp
      simp only [unrF, rankF, hp]
      rw [ih _ _ hs h2]

theorem unrF_get (l : List Nat) (n : Nat) (hn : n < waysN l) : (plF l.sum l)[n]? = some (unrF l.sum l n) := by
  obtain ⟨xs, hx, rfl⟩ := (plF_all l.sum l rfl).2.2 n hn
  rw [unrF_eq l.sum l xs rfl hx]
  exact ((plF_all l.sum l rfl).2.1 xs hx).1

/-! ### the counts of a placement -/
def cntN (m : Nat) (xs : List Nat) : List Nat := (List.range m).map fun k => xs.count k

theorem cntN_len (m : Nat) (xs : List Nat) : (cntN m xs).length = m := by simp [cntN]
theorem cntN_getD (m : Nat) (xs : List Nat) (k : Nat) : (cntN m xs).getD k 0 = if k < m then xs.count k else 0 := by
  simp only [cntN, List.getD_eq_getElem?_getD, List.getElem?_map]
  split <;> simp [*]

theorem dec_cnt (m : Nat) (c : Nat) (cs : List Nat) (_hc : c < m) : dec1 (cntN m (c :: cs)) c = cntN m cs := by
  apply List.ext_getElem?
  intro k
  simp only [dec1, List.getElem?_set, cntN_len, cntN_getD]
  by_cases e : c = k
  · subst e; simp [_hc, cntN]
  · simp only [if_neg e]
    simp only [cntN, List.getElem?_map]
    by_cases hk : k < m
    · simp [hk, List.count_cons]; omega
    · simp [hk]

theorem has_cnt (m : Nat) (xs : List Nat) (h : ∀ x ∈ xs, x < m) : Has (cntN m xs) xs := by
  induction xs with
  | nil =>
    refine .nil _ ?_
    have : cntN m [] = List.replicate m 0 := by apply List.ext_getElem?; intro i; by_cases hi : i < m <;> simp [cntN, hi]
    rw [this]; simp
  | cons c cs ih =>
    have hc := h c (by simp)
    refine .cons _ c cs ?_ ?_
    · rw [cntN_getD, if_pos hc]; simp
    · rw [dec_cnt m c cs hc]; exact ih (fun x hx => h x (by simp [hx]))

theorem has_sum {l xs : List Nat} (h : Has l xs) : l.sum = xs.length := by
  induction h with
  | nil _ h => simpa using h
  | cons l c cs h1 _ ih => have := dec1_sum l c h1; simp; omega

theorem cntN_sum (m : Nat) (xs : List Nat) (h : ∀ x ∈ xs, x < m) : (cntN m xs).sum = xs.length := has_sum (has_cnt m xs h)

/-! ### the next placement -/
theorem rIn_skip (l : List Nat) (a b : Nat) (hab : a ≤ b) (h : ∀ j, a ≤ j → j < b → l.getD j 0 = 0) : rIn l b = rIn l a := by
  induction b with
  | zero => have : a = 0 := by omega
            subst this; rfl
  | succ b ih =>
    by_cases e : a = b + 1
    · subst e; rfl
    · have := ih (by omega) (fun j h1 h2 => h j h1 (by omega))
      simp only [rIn, h b (by omega) (by omega), this]; simp

/-- ascending: number 0 -/
theorem rank_asc (m : Nat) (xs : List Nat) (h : ∀ x ∈ xs, x < m) (hs : xs.Pairwise (· ≤ ·)) : rankF (cntN m xs) xs = 0 := by
  induction xs with
  | nil => rfl
  | cons c cs ih =>
    have hc := h c (by simp)
    rw [List.pairwise_cons] at hs
    simp only [rankF, dec_cnt m c cs hc, ih (fun x hx => h x (by simp [hx])) hs.2]
    rw [rIn_skip _ 0 c (by omega) (fun j _ hj => ?_)]
    · rfl
    · rw [cntN_getD, if_pos (by omega)]
      refine List.count_eq_zero.2 (fun hm => ?_)
      rcases List.mem_cons.1 hm with e | hm
      · omega
      · have := hs.1 j hm; omega

/-- descending: the last number -/
theorem rank_desc (m : Nat) (xs : List Nat) (h : ∀ x ∈ xs, x < m) (hs : xs.Pairwise (· ≥ ·)) : rankF (cntN m xs) xs + 1 = waysN (cntN m xs) := by
  induction xs with
  | nil => simp [rankF]; rw [waysN_zero]; rw [cntN_sum m [] (by simp)]; rfl
  | cons c cs ih =>
    have hc := h c (by simp)
    rw [List.pairwise_cons] at hs
    have hr := ih (fun x hx => h x (by simp [hx])) hs.2
    simp only [rankF, dec_cnt m c cs hc]
    have h1 : rIn (cntN m (c :: cs)) (c + 1) = rIn (cntN m (c :: cs)) c + waysN (cntN m cs) := by
      simp only [rIn]
      rw [if_pos (by rw [cntN_getD, if_pos hc]; simp), dec_cnt m c cs hc]
    have h2 := rIn_skip (cntN m (c :: cs)) (c + 1) m (by omega) (fun j h1 h2 => by
      rw [cntN_getD, if_pos (by omega)]
      refine List.count_eq_zero.2 (fun hm => ?_)
      rcases List.mem_cons.1 hm with e | hm
      · omega
      · have := hs.1 j hm; omega)
    have h3 := rIn_all (cntN m (c :: cs)) (by rw [cntN_sum m _ h]; simp)
    rw [cntN_len] at h3
    omega

/-- the first place decides: the kinds between are not there -/
theorem rank_step (m c d : Nat) (cs ds : List Nat) (hm : ∀ x ∈ c :: cs, x < m) (hcs : cs.Pairwise (· ≥ ·)) (hcd : c < d) (hd : d ∈ cs) (hbt : ∀ x ∈ cs, x ≤ c ∨ d ≤ x)
    (hds : ds.Pairwise (· ≤ ·)) (hp : (d :: ds).Perm (c :: cs)) : rankF (cntN m (c :: cs)) (d :: ds) = rankF (cntN m (c :: cs)) (c :: cs) + 1 := by
  have hc := hm c (by simp)
  have hdm := hm d (by simp [hd])
  have hcnt : cntN m (c :: cs) = cntN m (d :: ds) := by
    unfold cntN
    exact List.map_congr_left fun k _ => (hp.count_eq k).symm
  have h1 : rankF (cntN m (c :: cs)) (c :: cs) + 1 = rIn (cntN m (c :: cs)) (c + 1) := by
    have := rank_desc m cs (fun x hx => hm x (by simp [hx])) hcs
    simp only [rankF, dec_cnt m c cs hc, rIn]
    rw [if_pos (by rw [cntN_getD, if_pos hc]; simp)]
    omega
  have h2 : rankF (cntN m (c :: cs)) (d :: ds) = rIn (cntN m (c :: cs)) d := by
    conv => lhs; rw [hcnt]
    have hdsm : ∀ x ∈ ds, x < m := fun x hx => hm x (hp.subset (by simp [hx]))
    simp only [rankF, dec_cnt m d ds hdm, rank_asc m ds hdsm hds, Nat.add_zero]
    rw [hcnt]
  rw [h1, h2]
  refine rIn_skip _ (c + 1) d (by omega) (fun j h1 h2 => ?_)
  rw [cntN_getD, if_pos (by omega)]
  refine List.count_eq_zero.2 (fun hx => ?_)
  rcases List.mem_cons.1 hx with e | hx
  · omega
  · rcases hbt j hx with h | h <;> omega

theorem rank_prefix (m : Nat) (ps xs ys : List Nat) (h : ∀ x ∈ ps, x < m) (hr : rankF (cntN m xs) ys = rankF (cntN m xs) xs + 1) :
    rankF (cntN m (ps ++ xs)) (ps ++ ys) = rankF (cntN m (ps ++ xs)) (ps ++ xs) + 1 := by
  induction ps with
  | nil => simpa using hr
  | cons p ps ih =>
    have ih := ih (fun x hx => h x (by simp [hx]))
    simp only [List.cons_append, rankF, dec_cnt m p (ps ++ xs) (h p (by simp))]
    omega

theorem rIn_mono (l : List Nat) (a b : Nat) (hab : a ≤ b) : rIn l a ≤ rIn l b := by
  induction b with
  | zero => have : a = 0 := by omega
            subst this; exact Nat.le_refl _
  | succ b ih =>
    by_cases e : a = b + 1
    · subst e; exact Nat.le_refl _
    · have := ih (by omega); simp only [rIn]; omega

theorem waysN_le (l : List Nat) : waysN l ≤ fac l.sum := by
  have h := ways_fac l
  rw [← h]; exact Nat.le_mul_of_pos_right _ (facs_pos l)

theorem rank_lt (m : Nat) (xs : List Nat) (h : ∀ x ∈ xs, x < m) : rankF (cntN m xs) xs < waysN (cntN m xs) :=
  ((plF_all _ _ rfl).2.1 xs (has_cnt m xs h)).2

theorem rank_bd (m : Nat) (xs : List Nat) (h : ∀ x ∈ xs, x < m) (hl : xs.length ≤ 16) : rankF (cntN m xs) xs ≤ 20922789888000 := by
  have h1 := rank_lt m xs h
  have h2 := waysN_le (cntN m xs)
  rw [cntN_sum m xs h] at h2
  have h3 : fac xs.length ≤ fac 16 := fac_mono hl
  have h4 : fac 16 = 20922789888000 := by decide
  omega
end Go.Proofs.Ytllhgkacbpgemaa
