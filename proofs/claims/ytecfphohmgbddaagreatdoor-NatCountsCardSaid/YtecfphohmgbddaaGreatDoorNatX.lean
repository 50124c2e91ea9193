/- plain: the reference's division, one digit of the text after the other -/
import Derived.Test.YtecfphohmgbddaaGreatDoorNatT
namespace Go.Proofs.YtecfphohmgbddaaGreatDoor
open Go.RowKit
set_option linter.unusedVariables false

theorem numB_decT (n : Nat) : numB (decT n) = n := by unfold numB; rw [decT_list, decF_dd]
theorem canon_decT (n : Nat) : Canon (decT n).data.toList := by rw [decT_list]; exact dd_canon n
theorem strip0 {l : List UInt8} (h : AllD l) : stripL (48 :: l) = Lib.decDigits (decF 0 l) := by
  rw [stripL_dd (fun b hb => by
    rcases List.mem_cons.1 hb with rfl | hb
    · decide
    · exact h b hb) (by simp), decF_cons]
  have : (0 * 10 + ((48 : UInt8).toNat - 48)) = 0 := by decide
  rw [this]
theorem canon_pos {l : List UInt8} (h : Canon l) (h0 : decF 0 l ≠ 0) : tenP (l.length - 1) ≤ decF 0 l := by
  have hd := canon_dd h
  have hne : 0 < l.length := List.length_pos_iff.2 h.2.1
  rcases Nat.lt_or_ge (decF 0 l) (tenP (l.length - 1)) with hlt | hge
  · exfalso
    by_cases h1 : l.length = 1
    · rw [h1] at hlt
      have : tenP (1 - 1) = 1 := rfl
      omega
    · obtain ⟨k, hk⟩ : ∃ k, l.length - 1 = k + 1 := ⟨l.length - 2, by omega⟩
      rw [hk] at hlt
      have := dd_len_lt hlt
      rw [← hd] at this
      omega
  · exact hge
theorem dd_mono {x y : Nat} (h : x ≤ y) : (Lib.decDigits x).length ≤ (Lib.decDigits y).length := by
  have h1 := decF_lt (dd_allD y)
  rw [decF_dd] at h1
  obtain ⟨k, hk⟩ : ∃ k, (Lib.decDigits y).length = k + 1 := ⟨(Lib.decDigits y).length - 1, by have := List.length_pos_iff.2 (dd_ne y); omega⟩
  rw [hk] at h1 ⊢
  exact dd_len_lt (Nat.lt_of_le_of_lt h h1)
theorem decF_snoc (l : List UInt8) (c : UInt8) : decF 0 (l ++ [c]) = decF 0 l * 10 + (c.toNat - 48) := by
  rw [decF_append, decF_cons, decF_nil]
theorem AllD.snoc {l : List UInt8} {c : UInt8} (h : AllD l) (hc : 48 ≤ c.toNat ∧ c.toNat ≤ 57) : AllD (l ++ [c]) := by
  intro b hb
  rcases List.mem_append.1 hb with hb | hb
  · exact h b hb
  · rw [List.mem_singleton] at hb; subst hb; exact hc

/-- the state of the division: quotient's digits so far, rest x -/
def DvI (al : List UInt8) (B i : Nat) (qs : List UInt8) (x : Nat) : Prop := AllD qs ∧ x < B ∧ decF 0 (al.take i) = decF 0 qs * B + x

theorem DvI.start {al bs : List UInt8} {n : Nat} (ha : AllD al) (hb : Canon bs) (h0 : decF 0 bs ≠ 0) (hn : n ≤ bs.length - 1) : DvI al (decF 0 bs) n [] (decF 0 (al.take n)) := by
  refine ⟨fun b hb => (by cases hb), ?_, by simp [decF_nil]⟩
  have h1 := decF_lt (ha.take n)
  have h2 : (10 : Nat) ^ (al.take n).length ≤ 10 ^ (bs.length - 1) := Nat.pow_le_pow_right (by omega) (by rw [List.length_take]; omega)
  have h3 := canon_pos hb h0
  unfold tenP at h3
  omega
theorem take_snoc {al : List UInt8} {i : Nat} {c : UInt8} (h : al[i]? = some c) : al.take (i + 1) = al.take i ++ [c] := by
  obtain ⟨h1, h2⟩ := List.getElem?_eq_some_iff.1 h
  rw [List.take_succ_eq_append_getElem h1, h2]
theorem DvI.step {al : List UInt8} {B i x t r : Nat} {qs : List UInt8} {c : UInt8} (h : DvI al B i qs x) (ha : AllD al) (hc : al[i]? = some c) (hr : r < B) (ht : r + t * B = x * 10 + (c.toNat - 48)) (ht9 : t ≤ 9) :
    DvI al B (i + 1) (qs ++ [(48 + t).toUInt8]) r := by
  obtain ⟨h1, h2, h3⟩ := h
  have hb := byte48 ht9
  refine ⟨h1.snoc (by rw [hb]; omega), hr, ?_⟩
  rw [take_snoc hc, decF_snoc, decF_snoc, hb, h3, Nat.add_mul, Nat.add_mul, Nat.mul_right_comm, show 48 + t - 48 = t by omega]
  omega
theorem DvI.small {al : List UInt8} {B i x t r : Nat} {qs : List UInt8} {c : UInt8} (h : DvI al B i qs x) (ha : AllD al) (hc : al[i]? = some c) (ht : r + t * B = x * 10 + (c.toNat - 48)) : t ≤ 9 := by
  obtain ⟨h1, h2, h3⟩ := h
  have hc9 := ha c (List.mem_of_getElem? hc)
  rcases Nat.lt_or_ge 9 t with h | h
  · exfalso
    have := Nat.mul_le_mul_right B (show 10 ≤ t from h)
    omega
  · exact h
theorem DvI.stop {al : List UInt8} {B i x : Nat} {qs : List UInt8} (h : DvI al B i qs x) (hi : al.length = i) : AllD qs ∧ decF 0 qs = decF 0 al / B ∧ x = decF 0 al % B := by
  obtain ⟨h1, h2, h3⟩ := h
  rw [← hi, List.take_length] at h3
  have := (Nat.div_mod_unique (a := decF 0 al) (b := B) (c := x) (d := decF 0 qs) (by omega)).2 ⟨by rw [h3, Nat.mul_comm]; omega, h2⟩
  exact ⟨h1, this.1.symm, this.2.symm⟩
theorem encode_dig {t : Nat} (h : t ≤ 9) : Utf8.encode (48 + (t : Int)) = ⟨#[(48 + t).toUInt8]⟩ := by
  have : t = 0 ∨ t = 1 ∨ t = 2 ∨ t = 3 ∨ t = 4 ∨ t = 5 ∨ t = 6 ∨ t = 7 ∨ t = 8 ∨ t = 9 := by omega
  rcases this with rfl | rfl | rfl | rfl | rfl | rfl | rfl | rfl | rfl | rfl <;> rfl
/-- the length of what is divided next -/
theorem next_len {x y k : Nat} {bs : List UInt8} (hx : x < decF 0 bs) (hb : AllD bs) (hy : y ≤ x * 10 + 9) : (Lib.decDigits y).length ≤ bs.length + 1 := by
  have h1 := decF_lt hb
  apply dd_len_lt
  rw [Nat.pow_succ]
  omega
end Go.Proofs.YtecfphohmgbddaaGreatDoor
