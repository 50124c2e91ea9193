/- plain: decimal texts and their numbers -/
import Derived.Test.YtecfphohmgbddaaGreatDoorLibB
import Derived.Lib.ParseIntBCases
import Derived.Lib.ItoaNum
import Derived.Lib.ItoaLen
namespace Go.Proofs.YtecfphohmgbddaaGreatDoor
set_option linter.unusedVariables false

/-- all bytes are digits -/
def AllD (l : List UInt8) : Prop := ∀ b ∈ l, 48 ≤ b.toNat ∧ b.toNat ≤ 57
/-- the number that digits spell, behind a number -/
def decF (a : Nat) (l : List UInt8) : Nat := l.foldl (fun a b => a * 10 + (b.toNat - 48)) a
theorem decF_nil (a : Nat) : decF a [] = a := rfl
theorem decF_cons (a : Nat) (b : UInt8) (t : List UInt8) : decF a (b :: t) = decF (a * 10 + (b.toNat - 48)) t := by unfold decF; rw [List.foldl_cons]

theorem AllD.nil : AllD [] := fun b h => by cases h
theorem AllD.head {b : UInt8} {t : List UInt8} (h : AllD (b :: t)) : 48 ≤ b.toNat ∧ b.toNat ≤ 57 := h b (by simp)
theorem AllD.tail {b : UInt8} {t : List UInt8} (h : AllD (b :: t)) : AllD t := fun x hx => h x (by simp [hx])
theorem AllD.take {l : List UInt8} (h : AllD l) (k : Nat) : AllD (l.take k) := fun x hx => h x (List.mem_of_mem_take hx)
theorem AllD.drop {l : List UInt8} (h : AllD l) (k : Nat) : AllD (l.drop k) := fun x hx => h x (List.mem_of_mem_drop hx)
theorem AllD.append {a b : List UInt8} (ha : AllD a) (hb : AllD b) : AllD (a ++ b) := fun x hx => (List.mem_append.1 hx).elim (ha x) (hb x)

theorem decF_append (l m : List UInt8) : ∀ a, decF a (l ++ m) = decF (decF a l) m := by
  induction l with
  | nil => intro a; rfl
  | cons b t ih => intro a; exact ih _

theorem decF_split (l : List UInt8) : ∀ a, decF a l = a * 10 ^ l.length + decF 0 l := by
  induction l with
  | nil => intro a; simp [decF_nil]
  | cons b t ih =>
    intro a
    rw [decF_cons, ih, decF_cons, ih (0 * 10 + (b.toNat - 48)), List.length_cons, Nat.pow_succ]
    rw [Nat.zero_mul, Nat.zero_add, Nat.add_mul, Nat.mul_assoc, Nat.mul_comm 10]
    omega

theorem decF_lt {l : List UInt8} (h : AllD l) : decF 0 l < 10 ^ l.length := by
  induction l with
  | nil => simp [decF_nil]
  | cons b t ih =>
    have h1 := h.head
    have h2 := ih h.tail
    rw [decF_cons, decF_split, List.length_cons, Nat.pow_succ]
    have : (0 * 10 + (b.toNat - 48)) * 10 ^ t.length ≤ 9 * 10 ^ t.length := Nat.mul_le_mul_right _ (by omega)
    omega

theorem decF_ge (l : List UInt8) (a : Nat) : a ≤ decF a l := by
  rw [decF_split]
  have : a * 1 ≤ a * 10 ^ l.length := Nat.mul_le_mul_left a (Nat.pow_pos (by omega))
  omega

theorem parseM_ok (M : Nat) : ∀ (l : List UInt8) (a : Nat), AllD l → decF a l ≤ M → M ≤ 4294967295 → Lib.parseUintM M a l = .ok (decF a l)
  | [], a, _, _, _ => rfl
  | b :: t, a, h, hM, hM2 => by
    have h1 := h.head
    have h2 := decF_ge t (a * 10 + (b.toNat - 48))
    rw [decF_cons] at hM
    rw [Lib.parseUintM, if_pos h1, if_neg (by omega), if_neg (by omega), decF_cons]
    exact parseM_ok M t _ h.tail hM hM2

theorem parse32_ok {l : List UInt8} (h : AllD l) (h0 : l ≠ []) (h9 : l.length ≤ 9) : Lib.parseUintB 32 l = .ok (decF 0 l) := by
  rw [Lib.parseUintB, if_neg h0]
  refine parseM_ok _ l 0 h ?_ (by decide)
  have h1 := decF_lt h
  have h2 : 10 ^ l.length ≤ 10 ^ 9 := Nat.pow_le_pow_right (by omega) h9
  omega

/-! ### numerals -/
theorem dd_small {n : Nat} (h : n < 10) : Lib.decDigits n = [UInt8.ofNat (48 + n)] := by rw [Lib.decDigits, dif_pos h]
theorem dd_big {n : Nat} (h : ¬ n < 10) : Lib.decDigits n = Lib.decDigits (n / 10) ++ [UInt8.ofNat (48 + n % 10)] := by rw [Lib.decDigits, dif_neg h]
theorem digit_toNat {d : Nat} (h : d < 10) : (UInt8.ofNat (48 + d)).toNat = 48 + d := by
  rw [UInt8.toNat_ofNat']; omega

theorem dd_allD (n : Nat) : AllD (Lib.decDigits n) := by
  induction n using Nat.strongRecOn with
  | ind n ih =>
    by_cases h : n < 10
    · rw [dd_small h]
      intro b hb
      obtain rfl := List.mem_singleton.1 hb
      rw [digit_toNat h]; omega
    · rw [dd_big h]
      refine (ih _ (by omega)).append ?_
      intro b hb
      obtain rfl := List.mem_singleton.1 hb
      rw [digit_toNat (by omega)]; omega

theorem decF_dd (n : Nat) : decF 0 (Lib.decDigits n) = n := by
  induction n using Nat.strongRecOn with
  | ind n ih =>
    by_cases h : n < 10
    · rw [dd_small h, decF_cons, decF_nil, digit_toNat h]; omega
    · rw [dd_big h, decF_append, ih _ (by omega), decF_cons, decF_nil, digit_toNat (by omega)]; omega

theorem dd_ne (n : Nat) : Lib.decDigits n ≠ [] := by
  by_cases h : n < 10
  · rw [dd_small h]; simp
  · rw [dd_big h]; simp

/-- leading zeros struck, the last digit kept -/
def stripL : List UInt8 → List UInt8
  | [] => []
  | b :: t => if b = 48 ∧ t ≠ [] then stripL t else b :: t

theorem stripL_snoc (d : UInt8) : ∀ l : List UInt8, l ≠ [] → stripL (l ++ [d]) = if stripL l = [48] then [d] else stripL l ++ [d]
  | [b], _ => by
    by_cases hb : b = 48
    · subst hb; simp [stripL]
    · simp [stripL, hb]
  | b :: c :: t, _ => by
    have ih := stripL_snoc d (c :: t) (by simp)
    by_cases hb : b = 48
    · subst hb
      have e1 : stripL (48 :: c :: t ++ [d]) = stripL (c :: t ++ [d]) := by
        show stripL (48 :: (c :: t ++ [d])) = _
        rw [stripL, if_pos ⟨rfl, by simp⟩]
      have e2 : stripL (48 :: c :: t) = stripL (c :: t) := by rw [stripL, if_pos ⟨rfl, by simp⟩]
      rw [e1, e2, ih]
    · have e1 : stripL (b :: c :: t ++ [d]) = b :: c :: t ++ [d] := by
        show stripL (b :: (c :: t ++ [d])) = _
        rw [stripL, if_neg (by simp [hb])]; rfl
      have e2 : stripL (b :: c :: t) = b :: c :: t := by rw [stripL, if_neg (by simp [hb])]
      rw [e1, e2, if_neg (by simp)]

theorem byte_digit {d : UInt8} (h : 48 ≤ d.toNat ∧ d.toNat ≤ 57) : UInt8.ofNat (48 + (d.toNat - 48)) = d := by
  apply UInt8.toNat_inj.1
  rw [digit_toNat (by omega)]; omega

/-- digits without their leading zeros are the numeral of their number -/
theorem stripL_dd {l : List UInt8} : AllD l → l ≠ [] → stripL l = Lib.decDigits (decF 0 l) := by
  induction hn : l.length generalizing l with
  | zero => intro _ h; exact absurd (List.eq_nil_of_length_eq_zero hn) h
  | succ n ih =>
    intro h hne
    have hs : l.dropLast ++ [l.getLast hne] = l := List.dropLast_concat_getLast hne
    have hd := h (l.getLast hne) (List.getLast_mem hne)
    have hdl : AllD l.dropLast := fun x hx => h x (List.dropLast_subset l hx)
    have hl : l.dropLast.length = n := by rw [List.length_dropLast]; omega
    generalize l.dropLast = m at *
    generalize l.getLast hne = d at *
    subst hs
    rw [decF_append, decF_cons, decF_nil]
    by_cases hm : m = []
    · subst hm
      rw [decF_nil, dd_small (by omega)]
      simp only [List.nil_append, Nat.zero_mul, Nat.zero_add]
      rw [byte_digit hd]
      simp [stripL]
    · rw [stripL_snoc d m hm, ih hl hdl hm]
      by_cases h0 : decF 0 m = 0
      · rw [h0, dd_small (show 0 < 10 by omega), if_pos (by decide), Nat.zero_mul, Nat.zero_add, dd_small (by omega), byte_digit hd]
      · have h1 : Lib.decDigits (decF 0 m) ≠ [48] := by
          intro e
          have := congrArg (decF 0) e
          rw [decF_dd] at this
          exact h0 this
        rw [if_neg h1, dd_big (n := decF 0 m * 10 + (d.toNat - 48)) (by omega), show (decF 0 m * 10 + (d.toNat - 48)) / 10 = decF 0 m by omega, show (decF 0 m * 10 + (d.toNat - 48)) % 10 = d.toNat - 48 by omega, byte_digit hd]

/-- a canonical text: digits, no leading zero but '0' itself -/
def Canon (l : List UInt8) : Prop := AllD l ∧ l ≠ [] ∧ (l.head? = some 48 → l.length = 1)
theorem canon_dd {l : List UInt8} (h : Canon l) : l = Lib.decDigits (decF 0 l) := by
  rw [← stripL_dd h.1 h.2.1]
  cases l with
  | nil => rfl
  | cons b t =>
    rw [stripL, if_neg]
    rintro ⟨rfl, ht⟩
    have := h.2.2 rfl
    simp at this
    exact ht this

theorem dd_head {n : Nat} (h : (Lib.decDigits n).head? = some 48) : n = 0 := by
  induction n using Nat.strongRecOn with
  | ind n ih =>
    by_cases h1 : n < 10
    · rw [dd_small h1] at h
      simp only [List.head?_cons, Option.some.injEq] at h
      have := congrArg UInt8.toNat h
      rw [digit_toNat h1] at this
      have e : (48 : UInt8).toNat = 48 := rfl
      omega
    · rw [dd_big h1, List.head?_append] at h
      have h2 : (Lib.decDigits (n / 10)).head? = some 48 := by
        cases hd : (Lib.decDigits (n / 10)).head? with
        | none => exact absurd (List.head?_eq_none_iff.1 hd) (dd_ne _)
        | some x => rw [hd] at h; simpa using h
      have := ih _ (by omega) h2
      omega

theorem dd_canon (n : Nat) : Canon (Lib.decDigits n) := by
  refine ⟨dd_allD n, dd_ne n, fun h => ?_⟩
  rw [dd_head h, dd_small (by omega)]; rfl
end Go.Proofs.YtecfphohmgbddaaGreatDoor
