/- plain: the long division as a whole, and the way back by k bits -/
import Derived.Test.YtecfphohmgbddaaGreatDoorBigM
namespace Go.Proofs.YtecfphohmgbddaaGreatDoor
set_option linter.unusedVariables false

theorem len_mulAddL (x : Nat) : ∀ (l : List Nat) (c : Nat), (mulAddL x l c).length = l.length + 1
  | [], _ => rfl
  | d :: t, c => by rw [mulAddL, List.length_cons, List.length_cons, len_mulAddL]

/-- a long division of X by V, which has S digits: the windows from j on are done -/
def DI (V X S j : Nat) (A R qs : List Nat) : Prop :=
  A.length = j ∧ R.length = S ∧ Dg A ∧ Dg R ∧ Dg qs ∧ val R < V ∧ val A + 4294967296 ^ j * (val R + V * val qs) = X

theorem DI.start {us : List Nat} {V X S N p : Nat} (hu : Dg us) (hl : us.length = N + 1) (hS : 1 ≤ S) (hSN : S ≤ N) (hX : val us = X) (hlt : X < p * 4294967296 ^ N) (hp : p * 4294967296 ^ (S - 1) ≤ V) :
    DI V X S (N + 1 - S) (us.take (N + 1 - S)) (us.drop (N + 1 - S)) [] := by
  have h1 : (us.take (N + 1 - S)).length = N + 1 - S := by rw [List.length_take]; omega
  have h2 := val_append (us.take (N + 1 - S)) (us.drop (N + 1 - S))
  rw [List.take_append_drop, h1, hX] at h2
  refine ⟨h1, by rw [List.length_drop]; omega, hu.take _, hu.drop _, Dg.nil, ?_, by rw [h2]; simp [val]⟩
  have h3 : p * 4294967296 ^ N ≤ 4294967296 ^ (N + 1 - S) * V := by
    have e : N = (N + 1 - S) + (S - 1) := by omega
    calc p * 4294967296 ^ N = p * (4294967296 ^ (N + 1 - S) * 4294967296 ^ (S - 1)) := by rw [← Nat.pow_add, ← e]
      _ = 4294967296 ^ (N + 1 - S) * (p * 4294967296 ^ (S - 1)) := Nat.mul_left_comm _ _ _
      _ ≤ _ := Nat.mul_le_mul_left _ hp
  have h4 : 4294967296 ^ (N + 1 - S) * val (us.drop (N + 1 - S)) < 4294967296 ^ (N + 1 - S) * V := by omega
  exact Nat.lt_of_mul_lt_mul_left h4

theorem DI.open {V X S j : Nat} {A R qs : List Nat} (h : DI V X S (j + 1) A R qs) : ∃ A' a, A = A' ++ [a] ∧ A'.length = j ∧ a < 4294967296 := by
  obtain ⟨h1, _, h3, _⟩ := h
  have hne : A ≠ [] := by intro e; subst e; cases h1
  exact ⟨A.dropLast, A.getLast hne, (List.dropLast_concat_getLast hne).symm, by rw [List.length_dropLast]; omega, h3 _ (List.getLast_mem hne)⟩

theorem DI.win {V X S j a : Nat} {A R qs : List Nat} (h : DI V X S (j + 1) (A ++ [a]) R qs) : (a :: R).length = S + 1 ∧ Dg (a :: R) ∧ val (a :: R) / V < 4294967296 := by
  obtain ⟨h1, h2, h3, h4, h5, h6, h7⟩ := h
  have ha := h3 a (by simp)
  refine ⟨by rw [List.length_cons, h2], Dg.cons ha h4, ?_⟩
  apply Nat.div_lt_of_lt_mul
  rw [val]
  have : 4294967296 * (val R + 1) ≤ 4294967296 * V := Nat.mul_le_mul_left _ h6
  rw [Nat.mul_comm V]
  omega

theorem DI.step {V X S j a q : Nat} {A R qs os : List Nat} (h : DI V X S (j + 1) (A ++ [a]) R qs) (hV : 0 < V) (hVS : V ≤ 4294967296 ^ S) (hq : q = val (a :: R) / V) (hol : os.length = S + 1) (hod : Dg os) (hov : val os = val (a :: R) % V) :
    DI V X S j A (os.take S) (q :: qs) := by
  have hq9 := h.win.2.2
  obtain ⟨h1, h2, h3, h4, h5, h6, h7⟩ := h
  have hAl : A.length = j := by rw [List.length_append] at h1; simpa using h1
  have e1 := val_append (os.take S) (os.drop S)
  have hSl : (os.take S).length = S := by rw [List.length_take]; omega
  rw [List.take_append_drop, hSl] at e1
  have hm := Nat.mod_lt (val (a :: R)) hV
  have hz : val (os.drop S) = 0 := by
    rcases Nat.eq_zero_or_pos (val (os.drop S)) with h | h
    · exact h
    · have := Nat.mul_le_mul_left (4294967296 ^ S) h
      omega
  rw [hz, Nat.mul_zero, Nat.add_zero] at e1
  have e2 : val (os.take S) = val (a :: R) % V := by omega
  refine ⟨hAl, hSl, fun x hx => h3 x (by simp [hx]), hod.take _, Dg.cons (by omega) h5, by omega, ?_⟩
  have e3 := Nat.div_add_mod (val (a :: R)) V
  have e4 : val [a] = a := by simp [val]
  have e6 : val (a :: R) = a + 4294967296 * val R := rfl
  have e7 : val (q :: qs) = q + 4294967296 * val qs := rfl
  rw [e2, e7, hq]
  rw [val_append, hAl, e4] at h7
  rw [← h7, Nat.pow_succ]
  generalize val (a :: R) / V = Q at *
  generalize val (a :: R) % V = M at *
  rw [e6] at e3
  have e5 : M + V * (Q + 4294967296 * val qs) = a + 4294967296 * (val R + V * val qs) := by
    rw [Nat.mul_add V, Nat.mul_add 4294967296, Nat.mul_left_comm V 4294967296]
    omega
  rw [e5, Nat.mul_add (4294967296 ^ j) a, Nat.mul_assoc (4294967296 ^ j) 4294967296]
  omega

theorem DI.stop {V X S : Nat} {A R qs : List Nat} (h : DI V X S 0 A R qs) : val qs = X / V ∧ val R = X % V := by
  obtain ⟨h1, h2, h3, h4, h5, h6, h7⟩ := h
  have hA : A = [] := List.eq_nil_of_length_eq_zero h1
  subst hA
  simp only [val, Nat.pow_zero, Nat.one_mul, Nat.zero_add] at h7
  have e := Nat.div_mod_unique (a := X) (b := V) (c := val R) (d := val qs) (by omega)
  have := e.2 ⟨h7, h6⟩
  exact ⟨this.1.symm, this.2.symm⟩

/-- a divisor moved up until its highest bit is set -/
theorem shift_facts {M p top n : Nat} {k : Nat} (hk : k ≤ 31) (hp : p = 2 ^ k) (hl : (dig M).length = n + 2) (ht : (dig M).getD (n + 1) 0 = top) (h1 : 2147483648 ≤ top * p) (h2 : top * p < 4294967296) :
    (dig (M * p)).length = n + 2 ∧ M * p < 4294967296 ^ (n + 2) ∧ p * 4294967296 ^ (n + 1) ≤ M * p ∧ 1 ≤ (dig (M * p)).getD (n + 1) 0 := by
  have hp31 : p ≤ 2147483648 := by rw [hp]; exact Nat.pow_le_pow_right (show 0 < 2 by omega) hk
  obtain ⟨P, hP⟩ : ∃ P, p * P = 4294967296 := ⟨2 ^ (32 - k), by rw [hp, ← Nat.pow_add, show k + (32 - k) = 32 by omega]⟩
  have hd := val_top2 hl
  have hlow := val_lt ((dig_dg M).take n)
  rw [List.length_take, hl, show min n (n + 2) = n by omega] at hlow
  have hv0 : (dig M).getD n 0 < 4294967296 := by
    rw [List.getD_eq_getElem?_getD, List.getElem?_eq_getElem (by omega)]
    exact dig_dg M _ (List.getElem_mem ..)
  rw [val_dig, ht] at hd
  generalize (dig M).getD n 0 = v0 at *
  generalize val ((dig M).take n) = low at *
  have hB : 0 < 4294967296 ^ n := Nat.pow_pos (by omega)
  have hsucc : (4294967296 : Nat) ^ (n + 1) = 4294967296 ^ n * 4294967296 := Nat.pow_succ ..
  have hsucc2 : (4294967296 : Nat) ^ (n + 2) = 4294967296 ^ n * 4294967296 * 4294967296 := by rw [Nat.pow_succ, Nat.pow_succ]
  generalize 4294967296 ^ n = B at *
  have hM : top * (B * 4294967296) ≤ M ∧ M < (top + 1) * (B * 4294967296) := by
    have e1 : B * (v0 + 4294967296 * top) = B * v0 + top * (B * 4294967296) := by
      rw [Nat.mul_add, Nat.mul_comm 4294967296 top, Nat.mul_left_comm B top]
    have e2 : B * v0 + B ≤ B * 4294967296 := by
      have := Nat.mul_le_mul_left B (show v0 + 1 ≤ 4294967296 by omega)
      rw [Nat.mul_add] at this; omega
    rw [Nat.add_mul]
    omega
  have htp : (top + 1) * p ≤ 4294967296 := by
    have : top < P := by
      apply Nat.lt_of_mul_lt_mul_left (a := p)
      rw [hP, Nat.mul_comm]; exact h2
    have := Nat.mul_le_mul_left p (show top + 1 ≤ P from this)
    rw [hP, Nat.mul_comm] at this
    exact this
  have hp0 : 0 < p := by
    rcases Nat.eq_zero_or_pos p with h | h
    · rw [h] at h1; omega
    · exact h
  have hup : M * p < B * 4294967296 * 4294967296 := by
    calc M * p < (top + 1) * (B * 4294967296) * p := Nat.mul_lt_mul_of_pos_right hM.2 hp0
      _ = (B * 4294967296) * ((top + 1) * p) := by rw [Nat.mul_comm (top + 1), Nat.mul_assoc]
      _ ≤ _ := Nat.mul_le_mul_left _ htp
  have hlo2 : 2147483648 * (B * 4294967296) ≤ M * p := by
    calc 2147483648 * (B * 4294967296) ≤ (top * p) * (B * 4294967296) := Nat.mul_le_mul_right _ h1
      _ = top * (B * 4294967296) * p := by rw [Nat.mul_assoc, Nat.mul_comm p, ← Nat.mul_assoc]
      _ ≤ _ := Nat.mul_le_mul_right _ hM.1
  have hlen : (dig (M * p)).length = n + 2 := by
    have h1 := dig_len_lt (n := M * p) (k := n + 2) (by rw [hsucc2]; exact hup)
    have h2 := lt_dig_len (M * p)
    have h3 : n + 1 < (dig (M * p)).length := by
      rcases Nat.lt_or_ge (n + 1) (dig (M * p)).length with h | h
      · exact h
      · exfalso
        have h4 : (4294967296 : Nat) ^ (dig (M * p)).length ≤ 4294967296 ^ (n + 1) := Nat.pow_le_pow_right (by omega) h
        rw [hsucc] at h4
        omega
    omega
  refine ⟨hlen, by rw [hsucc2]; exact hup, ?_, ?_⟩
  · rw [hsucc]
    exact Nat.le_trans (Nat.mul_le_mul_right _ hp31) hlo2
  · have hne : dig (M * p) ≠ [] := by intro e; rw [e] at hlen; cases hlen
    have hs := (List.dropLast_concat_getLast hne).symm
    have h0 := dig_last hs
    have hl1 : (dig (M * p)).dropLast.length = n + 1 := by rw [List.length_dropLast, hlen]; rfl
    have : (dig (M * p)).getD (n + 1) 0 = (dig (M * p)).getLast hne := by
      rw [List.getD_eq_getElem?_getD, List.getLast_eq_getElem]
      rw [List.getElem?_eq_getElem (by omega)]
      simp [hlen]
    rw [this]
    omega

/-- back by k bits (p = 2^k, p * P = 2^32) -/
def unsh (p P : Nat) : List Nat → List Nat
  | [] => []
  | a :: t => (a / p + (t.headD 0 % p) * P) :: unsh p P t

theorem unsh_len (p P : Nat) : ∀ l : List Nat, (unsh p P l).length = l.length
  | [] => rfl
  | a :: t => by rw [unsh, List.length_cons, List.length_cons, unsh_len]
theorem unsh_cell {a h p P : Nat} (hpP : p * P = 4294967296) (ha : a < 4294967296) : a / p < P ∧ (h % p) * P + P ≤ 4294967296 := by
  have hp : 0 < p := by rcases Nat.eq_zero_or_pos p with h | h; · rw [h] at hpP; omega
                        · exact h
  constructor
  · apply Nat.div_lt_of_lt_mul; rw [hpP]; exact ha
  · have := Nat.mul_le_mul_right P (show h % p + 1 ≤ p from Nat.mod_lt _ hp)
    rw [hpP, Nat.add_mul] at this; omega
theorem unsh_dg {p P : Nat} (hpP : p * P = 4294967296) : ∀ l : List Nat, Dg l → Dg (unsh p P l)
  | [], _ => Dg.nil
  | a :: t, h => by
    rw [unsh]
    have := unsh_cell (h := t.headD 0) hpP h.head
    exact Dg.cons (by omega) (unsh_dg hpP t h.tail)
theorem unsh_val {p P : Nat} (hpP : p * P = 4294967296) : ∀ l : List Nat, val (unsh p P l) * p + l.headD 0 % p = val l
  | [] => by simp [unsh, val]
  | a :: t => by
    have ih := unsh_val hpP t
    have e := Nat.div_add_mod a p
    rw [unsh, val, val, List.headD_cons, ← ih]
    rw [Nat.add_mul, Nat.add_mul, Nat.mul_assoc (t.headD 0 % p), Nat.mul_comm P p, hpP, Nat.mul_assoc 4294967296, Nat.mul_comm (a / p) p, Nat.mul_comm (t.headD 0 % p) 4294967296, Nat.mul_add 4294967296]
    omega
theorem unsh_back {p P r : Nat} (hpP : p * P = 4294967296) : val (unsh p P (dig (r * p))) = r := by
  have hp : 0 < p := by rcases Nat.eq_zero_or_pos p with h | h; · rw [h] at hpP; omega
                        · exact h
  have e := unsh_val hpP (dig (r * p))
  rw [val_dig] at e
  have h0 : (dig (r * p)).headD 0 % p = 0 := by
    by_cases h : r * p = 0
    · rw [h, dig_zero]; exact Nat.zero_mod p
    · rw [dig_pos h, List.headD_cons, ← hpP, Nat.mod_mul_right_mod, Nat.mul_mod_left]
  rw [h0, Nat.add_zero] at e
  exact Nat.eq_of_mul_eq_mul_right hp e
end Go.Proofs.YtecfphohmgbddaaGreatDoor
