/- plain: numbers in base 2^32: value, digits, and the loops of package big as functions of lists -/
import Derived.Test.YtecfphohmgbddaaGreatDoorLibB
namespace Go.Proofs.YtecfphohmgbddaaGreatDoor

set_option linter.unusedVariables false

def val : List Nat → Nat
  | [] => 0
  | d :: t => d + 4294967296 * val t
def dig (n : Nat) : List Nat := if n = 0 then [] else (n % 4294967296) :: dig (n / 4294967296)
termination_by n
decreasing_by omega
def Dg (l : List Nat) : Prop := ∀ d ∈ l, d < 4294967296

theorem Dg.nil : Dg [] := fun d h => by cases h
theorem Dg.cons {d : Nat} {t : List Nat} (h : d < 4294967296) (ht : Dg t) : Dg (d :: t) := fun x hx => by
  rcases List.mem_cons.1 hx with rfl | hx
  · exact h
  · exact ht x hx
theorem Dg.head {d : Nat} {t : List Nat} (h : Dg (d :: t)) : d < 4294967296 := h d (by simp)
theorem Dg.tail {d : Nat} {t : List Nat} (h : Dg (d :: t)) : Dg t := fun x hx => h x (by simp [hx])
theorem Dg.drop {l : List Nat} (h : Dg l) (k : Nat) : Dg (l.drop k) := fun x hx => h x (List.mem_of_mem_drop hx)
theorem Dg.take {l : List Nat} (h : Dg l) (k : Nat) : Dg (l.take k) := fun x hx => h x (List.mem_of_mem_take hx)
theorem Dg.append {a b : List Nat} (ha : Dg a) (hb : Dg b) : Dg (a ++ b) := fun x hx => (List.mem_append.1 hx).elim (ha x) (hb x)
theorem Dg.at {l : List Nat} (h : Dg l) {k x : Nat} (hx : l[k]? = some x) : x < 4294967296 := h x (List.mem_of_getElem? hx)
theorem Dg.zeros (n : Nat) : Dg (List.replicate n 0) := fun x hx => by rw [(List.mem_replicate.1 hx).2]; omega

theorem dig_zero : dig 0 = [] := by rw [dig, if_pos rfl]
theorem dig_pos {n : Nat} (h : n ≠ 0) : dig n = (n % 4294967296) :: dig (n / 4294967296) := by rw [dig, if_neg h]

theorem val_dig (n : Nat) : val (dig n) = n := by
  induction n using Nat.strongRecOn with
  | ind n ih =>
    by_cases h : n = 0
    · subst h; rw [dig_zero]; rfl
    · rw [dig_pos h, val, ih (n / 4294967296) (by omega)]; omega

theorem dig_dg (n : Nat) : Dg (dig n) := by
  induction n using Nat.strongRecOn with
  | ind n ih =>
    by_cases h : n = 0
    · subst h; rw [dig_zero]; exact Dg.nil
    · rw [dig_pos h]; exact Dg.cons (by omega) (ih _ (by omega))

theorem val_append (a b : List Nat) : val (a ++ b) = val a + 4294967296 ^ a.length * val b := by
  induction a with
  | nil => simp [val]
  | cons d t ih =>
    simp only [List.cons_append, val, ih, List.length_cons, Nat.pow_succ]
    rw [Nat.mul_add, Nat.mul_comm (4294967296 ^ t.length) 4294967296, Nat.mul_assoc]; omega

theorem val_lt {l : List Nat} (h : Dg l) : val l < 4294967296 ^ l.length := by
  induction l with
  | nil => simp [val]
  | cons d t ih =>
    have h1 := h.head
    have h2 := ih h.tail
    simp only [val, List.length_cons, Nat.pow_succ]
    omega

theorem val_zeros (n : Nat) : val (List.replicate n 0) = 0 := by
  induction n with
  | zero => rfl
  | succ n ih => rw [List.replicate_succ, val, ih]

theorem dig_nil_iff {n : Nat} : dig n = [] ↔ n = 0 := by
  constructor
  · intro h; rw [← val_dig n, h]; rfl
  · rintro rfl; exact dig_zero

/-- a list of digits whose last one is not 0 is the list of its value -/
theorem dig_val_snoc : ∀ {l : List Nat} {d : Nat}, Dg l → d < 4294967296 → d ≠ 0 → dig (val (l ++ [d])) = l ++ [d]
  | [], d, _, hd, h0 => by
    have : val ([] ++ [d]) = d := by simp [val]
    rw [this, dig_pos h0]
    have h1 : d / 4294967296 = 0 := by omega
    rw [h1, dig_zero, show d % 4294967296 = d from by omega]; rfl
  | e :: l, d, hl, hd, h0 => by
    have he := hl.head
    have ih := dig_val_snoc hl.tail hd h0
    have hv : val (e :: l ++ [d]) = e + 4294967296 * val (l ++ [d]) := rfl
    have hp : val (l ++ [d]) ≠ 0 := by
      intro e0
      rw [e0, dig_zero] at ih
      exact absurd ih.symm (by simp)
    rw [hv, dig_pos (by omega), show (e + 4294967296 * val (l ++ [d])) % 4294967296 = e from by omega, show (e + 4294967296 * val (l ++ [d])) / 4294967296 = val (l ++ [d]) from by omega, ih]; rfl

theorem val_snoc_zero (l : List Nat) : val (l ++ [0]) = val l := by rw [val_append]; simp [val]

/-- the digits of a list's value are a beginning of the list -/
theorem norm_take : ∀ (ds : List Nat), Dg ds → ∃ k, k ≤ ds.length ∧ dig (val ds) = ds.take k := by
  intro ds
  induction hn : ds.length generalizing ds with
  | zero =>
    intro _
    have : ds = [] := List.eq_nil_of_length_eq_zero hn
    subst this
    exact ⟨0, Nat.le_refl _, dig_zero⟩
  | succ n ih =>
    intro hd
    have hne : ds ≠ [] := by intro e; subst e; cases hn
    have hs : ds.dropLast ++ [ds.getLast hne] = ds := List.dropLast_concat_getLast hne
    have hl : ds.dropLast.length = n := by rw [List.length_dropLast]; omega
    have hdl : Dg ds.dropLast := fun x hx => hd x (List.dropLast_subset ds hx)
    by_cases h0 : ds.getLast hne = 0
    · obtain ⟨k, hk, he⟩ := ih ds.dropLast hl hdl
      refine ⟨k, by omega, ?_⟩
      rw [h0] at hs
      rw [← hs, val_snoc_zero, he, List.take_append_of_le_length (by omega)]
    · refine ⟨ds.length, Nat.le_of_eq hn, ?_⟩
      rw [List.take_length]
      have := dig_val_snoc hdl (hd _ (List.getLast_mem hne)) h0
      rw [hs] at this
      exact this

/-- the last digit is not 0 -/
theorem dig_last {n : Nat} : ∀ {l : List Nat} {d : Nat}, dig n = l ++ [d] → d ≠ 0 := by
  induction n using Nat.strongRecOn with
  | ind n ih =>
    intro l d h
    by_cases h0 : n = 0
    · subst h0; rw [dig_zero] at h; exact absurd h.symm (by simp)
    · rw [dig_pos h0] at h
      cases l with
      | nil =>
        simp only [List.nil_append, List.cons.injEq] at h
        have h2 := dig_nil_iff.1 h.2
        omega
      | cons e l =>
        simp only [List.cons_append, List.cons.injEq] at h
        exact ih _ (by omega) h.2

theorem dig_len_lt {n k : Nat} (h : n < 4294967296 ^ k) : (dig n).length ≤ k := by
  induction k generalizing n with
  | zero => have : n = 0 := by simpa using h
            subst this; rw [dig_zero]; simp
  | succ k ih =>
    by_cases h0 : n = 0
    · subst h0; rw [dig_zero]; simp
    · rw [dig_pos h0, List.length_cons]
      have : n / 4294967296 < 4294967296 ^ k := by
        rw [Nat.pow_succ] at h; omega
      have := ih this
      omega

theorem lt_dig_len (n : Nat) : n < 4294967296 ^ (dig n).length := by
  have := val_lt (dig_dg n)
  rwa [val_dig] at this

theorem dig_len_le {n m : Nat} (h : n ≤ m) : (dig n).length ≤ (dig m).length :=
  dig_len_lt (Nat.lt_of_le_of_lt h (lt_dig_len m))

theorem pow_le_of_dig_len {n k : Nat} (h : k < (dig n).length) : 4294967296 ^ k ≤ n := by
  rcases Nat.lt_or_ge n (4294967296 ^ k) with h1 | h1
  · have := dig_len_lt h1; omega
  · exact h1

/-! ### the loops -/
/-- n * x + c -/
def mulAddL (x : Nat) : List Nat → Nat → List Nat
  | [], c => [c]
  | d :: t, c => (c + d * x) % 4294967296 :: mulAddL x t ((c + d * x) / 4294967296)

theorem mulAdd_carry {c d x : Nat} (hc : c < 4294967296) (hd : d < 4294967296) (hx : x < 4294967296) : c + d * x < 18446744073709551616 ∧ (c + d * x) / 4294967296 < 4294967296 := by
  have : d * x ≤ 4294967295 * 4294967295 := Nat.mul_le_mul (by omega) (by omega)
  omega

theorem val_mulAddL (x : Nat) : ∀ (l : List Nat) (c : Nat), val (mulAddL x l c) = val l * x + c
  | [], c => by simp [mulAddL, val]
  | d :: t, c => by
    rw [mulAddL, val, val_mulAddL x t, val, Nat.add_mul, Nat.mul_assoc]
    omega

theorem dg_mulAddL {x : Nat} (hx : x < 4294967296) : ∀ (l : List Nat) (c : Nat), Dg l → c < 4294967296 → Dg (mulAddL x l c)
  | [], c, _, hc => Dg.cons hc Dg.nil
  | d :: t, c, hl, hc => by
    have := mulAdd_carry hc hl.head hx
    exact Dg.cons (Nat.mod_lt _ (by omega)) (dg_mulAddL hx t _ hl.tail this.2)

/-- the sum, with a carry -/
def addL : List Nat → List Nat → Nat → List Nat
  | [], _, c => [c]
  | d :: t, ms, c => (c + d + ms.headD 0) % 4294967296 :: addL t ms.tail ((c + d + ms.headD 0) / 4294967296)

theorem val_addL : ∀ (l ms : List Nat) (c : Nat), ms.length ≤ l.length → val (addL l ms c) = val l + val ms + c
  | [], ms, c, h => by
    have : ms = [] := List.eq_nil_of_length_eq_zero (by simpa using h)
    subst this; simp [addL, val]
  | d :: t, ms, c, h => by
    rw [addL, val]
    cases ms with
    | nil => simp only [List.tail_nil, List.headD_nil]; rw [val_addL t [] _ (Nat.zero_le _)]; simp only [val]; omega
    | cons m ms => simp only [List.tail_cons, List.headD_cons]; rw [val_addL t ms _ (by simpa using h)]; simp only [val]; omega

theorem dg_addL : ∀ (l ms : List Nat) (c : Nat), Dg l → Dg ms → c ≤ 1 → Dg (addL l ms c)
  | [], _, c, _, _, hc => Dg.cons (by omega) Dg.nil
  | d :: t, ms, c, hl, hm, hc => by
    have h1 := hl.head
    have h2 : ms.headD 0 < 4294967296 := by
      cases ms with
      | nil => simp
      | cons m ms => exact hm.head
    refine Dg.cons (Nat.mod_lt _ (by omega)) (dg_addL t ms.tail _ hl.tail ?_ (by omega))
    cases ms with
    | nil => exact Dg.nil
    | cons m ms => exact hm.tail

/-- the borrow behind a place -/
def bor (d m b : Nat) : Nat := if d < b + m then 1 else 0
/-- the difference, with a borrow -/
def subL : List Nat → List Nat → Nat → List Nat
  | [], _, _ => []
  | d :: t, ms, b => (d + 4294967296 - b - ms.headD 0) % 4294967296 :: subL t ms.tail (bor d (ms.headD 0) b)

theorem val_subL : ∀ (l ms : List Nat) (b : Nat), Dg l → Dg ms → ms.length ≤ l.length → b ≤ 1 → val ms + b ≤ val l → val (subL l ms b) = val l - val ms - b
  | [], ms, b, _, _, h, _, hv => by
    have : ms = [] := List.eq_nil_of_length_eq_zero (by simpa using h)
    subst this; simp only [val] at hv; simp only [subL, val]; omega
  | d :: t, ms, b, hl, hm, h, hb, hv => by
    have h1 := hl.head
    cases ms with
    | nil =>
      simp only [subL, val, List.headD_nil, List.tail_nil, Nat.sub_zero] at *
      by_cases hc : d < b + 0
      · rw [show bor d 0 b = 1 from if_pos hc]
        rw [val_subL t [] 1 hl.tail Dg.nil (Nat.zero_le _) (by omega) (by simp only [val]; omega)]
        simp only [val]; omega
      · rw [show bor d 0 b = 0 from if_neg hc]
        rw [val_subL t [] 0 hl.tail Dg.nil (Nat.zero_le _) (by omega) (by simp only [val]; omega)]
        simp only [val]; omega
    | cons m ms =>
      have h2 := hm.head
      simp only [subL, val, List.headD_cons, List.tail_cons, List.length_cons] at *
      by_cases hc : d < b + m
      · rw [show bor d m b = 1 from if_pos hc]
        rw [val_subL t ms 1 hl.tail hm.tail (by omega) (by omega) (by omega)]
        omega
      · rw [show bor d m b = 0 from if_neg hc]
        rw [val_subL t ms 0 hl.tail hm.tail (by omega) (by omega) (by omega)]
        omega

theorem dg_subL : ∀ (l ms : List Nat) (b : Nat), Dg (subL l ms b)
  | [], _, _ => Dg.nil
  | d :: t, ms, b => Dg.cons (Nat.mod_lt _ (by omega)) (dg_subL t _ _)

/-- division by a digit, from the top: the quotient's digits and the rest -/
def divL (x : Nat) : List Nat → List Nat × Nat
  | [] => ([], 0)
  | d :: t => ((((divL x t).2 * 4294967296 + d) / x) :: (divL x t).1, ((divL x t).2 * 4294967296 + d) % x)

theorem divL_len (x : Nat) : ∀ l : List Nat, (divL x l).1.length = l.length
  | [] => rfl
  | d :: t => by simp only [divL, List.length_cons]; rw [divL_len x t]
theorem divL_lt {x : Nat} (hx : 0 < x) : ∀ l : List Nat, (divL x l).2 < x
  | [] => hx
  | d :: t => Nat.mod_lt _ hx
theorem divL_val {x : Nat} (hx : 0 < x) : ∀ l : List Nat, val (divL x l).1 * x + (divL x l).2 = val l
  | [] => by simp [divL, val]
  | d :: t => by
    have ih := divL_val hx t
    have e := Nat.div_add_mod ((divL x t).2 * 4294967296 + d) x
    simp only [divL, val, Nat.add_mul]
    rw [Nat.mul_assoc]
    rw [Nat.mul_comm x] at e
    omega
theorem divL_dg {x : Nat} (hx : 0 < x) : ∀ l : List Nat, Dg l → Dg (divL x l).1
  | [], _ => Dg.nil
  | d :: t, h => by
    have h1 := divL_lt hx t
    have h2 := h.head
    refine Dg.cons ?_ (divL_dg hx t h.tail)
    apply Nat.div_lt_of_lt_mul
    have : (divL x t).2 * 4294967296 + 4294967296 ≤ x * 4294967296 := by
      have := Nat.mul_le_mul_right 4294967296 (show (divL x t).2 + 1 ≤ x from h1)
      rw [Nat.add_mul] at this; omega
    omega

theorem divL_div {x n : Nat} (hx : 0 < x) : val (divL x (dig n)).1 = n / x ∧ (divL x (dig n)).2 = n % x := by
  have h1 := divL_val hx (dig n)
  have h2 := divL_lt hx (dig n)
  rw [val_dig] at h1
  generalize val (divL x (dig n)).1 = q at *
  generalize (divL x (dig n)).2 = r at *
  subst h1
  constructor
  · rw [Nat.mul_comm, Nat.mul_add_div hx, Nat.div_eq_of_lt h2]; omega
  · rw [Nat.mul_comm, Nat.mul_add_mod, Nat.mod_eq_of_lt h2]

/-- a row of a product: 'a' times the digits, added into a row of digits; behind the digits of the factor the carry replaces a digit -/
def mulIn (a : Nat) : List Nat → List Nat → Nat → List Nat
  | [], os, c => c :: os.tail
  | b :: ms, os, c => (c + (a * b + os.headD 0)) % 4294967296 :: mulIn a ms os.tail ((c + (a * b + os.headD 0)) / 4294967296)

theorem mulIn_carry {a b o c : Nat} (ha : a < 4294967296) (hb : b < 4294967296) (ho : o < 4294967296) (hc : c < 4294967296) :
    c + (a * b + o) < 18446744073709551616 ∧ (c + (a * b + o)) / 4294967296 < 4294967296 := by
  have : a * b ≤ 4294967295 * 4294967295 := Nat.mul_le_mul (by omega) (by omega)
  omega

theorem mulIn_len (a : Nat) : ∀ (ms os : List Nat) (c : Nat), ms.length < os.length → (mulIn a ms os c).length = os.length
  | [], os, c, h => by
    cases os with
    | nil => simp at h
    | cons o os => simp [mulIn]
  | b :: ms, os, c, h => by
    cases os with
    | nil => simp at h
    | cons o os => simp only [mulIn, List.tail_cons, List.length_cons]; rw [mulIn_len a ms os _ (by simpa using h)]

theorem mulIn_dg {a : Nat} (ha : a < 4294967296) : ∀ (ms os : List Nat) (c : Nat), Dg ms → Dg os → c < 4294967296 → Dg (mulIn a ms os c)
  | [], os, c, _, ho, hc => by
    cases os with
    | nil => exact Dg.cons hc Dg.nil
    | cons o os => exact Dg.cons hc ho.tail
  | b :: ms, os, c, hm, ho, hc => by
    have h2 : os.headD 0 < 4294967296 := by
      cases os with
      | nil => simp
      | cons o os => exact ho.head
    have h3 : Dg os.tail := by
      cases os with
      | nil => exact Dg.nil
      | cons o os => exact ho.tail
    exact Dg.cons (Nat.mod_lt _ (by omega)) (mulIn_dg ha ms _ _ hm.tail h3 (mulIn_carry ha hm.head h2 hc).2)

theorem mulIn_val (a : Nat) : ∀ (ms os : List Nat) (c : Nat), ms.length < os.length → os.getD ms.length 0 = 0 → val (mulIn a ms os c) = a * val ms + val os + c
  | [], os, c, h, h0 => by
    cases os with
    | nil => simp at h
    | cons o os =>
      simp at h0
      subst h0
      simp only [mulIn, val, List.tail_cons]; omega
  | b :: ms, os, c, h, h0 => by
    cases os with
    | nil => simp at h
    | cons o os =>
      simp only [mulIn, val, List.tail_cons, List.headD_cons]
      rw [mulIn_val a ms os _ (by simpa using h) (by simpa using h0), Nat.mul_add a, Nat.mul_left_comm a 4294967296]
      omega

/-- behind the factor's place the digits stay -/
theorem mulIn_past (a : Nat) : ∀ (ms os : List Nat) (c k : Nat), ms.length < os.length → ms.length < k → (mulIn a ms os c).getD k 0 = os.getD k 0
  | [], os, c, k, h, hk => by
    cases os with
    | nil => simp at h
    | cons o os =>
      match k with
      | 0 => simp at hk
      | k + 1 => simp [mulIn]
  | b :: ms, os, c, k, h, hk => by
    cases os with
    | nil => simp at h
    | cons o os =>
      match k with
      | 0 => simp at hk
      | k + 1 =>
        have := mulIn_past a ms os ((c + (a * b + o)) / 4294967296) k (by simpa using h) (by simpa using hk)
        simp only [mulIn, List.tail_cons, List.headD_cons, List.getD_cons_succ]
        exact this

/-- all rows of a product -/
def mulOut (ms : List Nat) : List Nat → List Nat → List Nat
  | [], os => os
  | a :: ns, os => (mulIn a ms os 0).headD 0 :: mulOut ms ns (mulIn a ms os 0).tail

theorem mulOut_dg {ms : List Nat} (hm : Dg ms) : ∀ (ns os : List Nat), Dg ns → Dg os → Dg (mulOut ms ns os)
  | [], os, _, ho => ho
  | a :: ns, os, hn, ho => by
    have h := mulIn_dg hn.head ms os 0 hm ho (by omega)
    cases hr : mulIn a ms os 0 with
    | nil => rw [mulOut, hr]; exact Dg.cons (by simp) (mulOut_dg hm ns _ hn.tail Dg.nil)
    | cons r rs =>
      rw [hr] at h
      rw [mulOut, hr]
      exact Dg.cons h.head (mulOut_dg hm ns rs hn.tail h.tail)

theorem mulOut_val {ms : List Nat} : ∀ (ns os : List Nat), ns.length + ms.length ≤ os.length → (∀ k, ms.length ≤ k → os.getD k 0 = 0) → val (mulOut ms ns os) = val ns * val ms + val os
  | [], os, _, _ => by simp [mulOut, val]
  | a :: ns, os, hl, hz => by
    simp only [List.length_cons] at hl
    have h1 := mulIn_len a ms os 0 (by omega)
    have h2 := mulIn_val a ms os 0 (by omega) (hz _ (Nat.le_refl _))
    have h3 := fun k (hk : ms.length < k) => mulIn_past a ms os 0 k (by omega) hk
    cases hr : mulIn a ms os 0 with
    | nil => rw [hr] at h1; simp at h1; omega
    | cons r rs =>
      rw [hr] at h1 h2 h3
      simp only [List.length_cons] at h1
      simp only [mulOut, hr, val, List.headD_cons, List.tail_cons] at h2 ⊢
      rw [mulOut_val ns rs (by omega) (fun k hk => by
        have := h3 (k + 1) (by omega)
        rw [List.getD_cons_succ] at this
        rw [this]; exact hz _ (by omega)), Nat.add_mul, Nat.mul_add, Nat.mul_assoc]
      omega

/-- a shift by some bits, by a factor that is a power of 2 -/
theorem dig_mulAddL {x : Nat} (hx : x < 4294967296) (n c : Nat) (hc : c < 4294967296) : dig (val (mulAddL x (dig n) c)) = dig (n * x + c) := by rw [val_mulAddL, val_dig]
end Go.Proofs.YtecfphohmgbddaaGreatDoor
