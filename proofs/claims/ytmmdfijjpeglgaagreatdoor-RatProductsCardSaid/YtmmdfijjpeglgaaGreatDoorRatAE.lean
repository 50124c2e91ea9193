/- texts of rational numbers and their parts -/
import Derived.Test.YtmmdfijjpeglgaaGreatDoorRtJ
import Derived.Test.YtmmdfijjpeglgaaGreatDoorRatAD
import Derived.Test.YtmmdfijjpeglgaaGreatDoorNatI
namespace Go.Proofs.YtmmdfijjpeglgaaGreatDoor
open Go.RowKit
set_option linter.unusedVariables false

/-- both numbers of a rational number have at most k digits -/
def RB (k : Nat) (q : Rat) : Prop := q.num.natAbs < 10 ^ k ∧ q.den < 10 ^ k
theorem RB.mono {k m : Nat} {q : Rat} (h : RB k q) (hk : k ≤ m) : RB m q :=
  ⟨Nat.lt_of_lt_of_le h.1 (Nat.pow_le_pow_right (by omega) hk), Nat.lt_of_lt_of_le h.2 (Nat.pow_le_pow_right (by omega) hk)⟩
theorem dd_len_le {n k : Nat} (h : n < 10 ^ k) : (Lib.decDigits n).length ≤ k + 1 := by
  apply dd_len_lt
  rw [Nat.pow_succ]
  omega
theorem decT_bytes (n : Nat) : (decT n).data.toList = Lib.decDigits n := decT_list n
theorem decT_allD (n : Nat) : AllD (decT n).data.toList := by rw [decT_bytes]; exact dd_allD n
theorem decT_canon (n : Nat) : Canon (decT n).data.toList := by rw [decT_bytes]; exact dd_canon n
theorem decT_pos (n : Nat) : 0 < (decT n).size := by
  rw [decT_size]
  exact List.length_pos_iff.2 (dd_ne n)
theorem decT_at {n k : Nat} (h : k < (decT n).size) : 48 ≤ (decT n)[k].toNat := by
  have h1 := byte_at h
  exact (decT_allD n _ (List.mem_of_getElem? h1)).1

/-- the text behind the sign -/
def absT (q : Rat) : ByteArray := if q.den = 1 then decT q.num.natAbs else decT q.num.natAbs ++ (⟨#[47]⟩ ++ decT q.den)
theorem ratT_abs (q : Rat) : ratT q = if q.num < 0 then ⟨#[45]⟩ ++ absT q else absT q := by
  unfold ratT signT absT
  split
  · rfl
  · split
    · rw [ByteArray.append_assoc]
    · rfl
theorem absT_data (q : Rat) : (absT q).data.toList = Lib.decDigits q.num.natAbs ++ (if q.den = 1 then [] else 47 :: Lib.decDigits q.den) := by
  unfold absT
  split
  · rw [decT_bytes]; simp
  · rw [bytes_data_append, bytes_data_append, decT_bytes, decT_bytes]; rfl
theorem absT_pos (q : Rat) : 0 < (absT q).size := by
  rw [← bsz, absT_data, List.length_append]
  have := List.length_pos_iff.2 (dd_ne q.num.natAbs)
  omega
theorem at_of {b : ByteArray} {k : Nat} {c : UInt8} (h : k < b.size) (e : b.data.toList[k]? = some c) : b[k] = c := by
  rw [byte_at h] at e
  exact Option.some.inj e
theorem u8_ne {c d : UInt8} (h : c.toNat ≠ d.toNat) : c ≠ d := fun e => h (by rw [e])
theorem absT_first (q : Rat) (h : 0 < (absT q).size) : (absT q)[0] ≠ 45 := by
  obtain ⟨c, l, hl⟩ : ∃ c l, Lib.decDigits q.num.natAbs = c :: l := by
    cases hh : Lib.decDigits q.num.natAbs with
    | nil => exact absurd hh (dd_ne _)
    | cons c l => exact ⟨c, l, rfl⟩
  have h1 : (absT q).data.toList[0]? = some c := by rw [absT_data, hl]; rfl
  rw [at_of h h1]
  have := (dd_allD q.num.natAbs c (by rw [hl]; exact List.mem_cons_self ..)).1
  apply u8_ne
  have h2 : (45 : UInt8).toNat = 45 := rfl
  omega
theorem neg_first (b : ByteArray) (h : 0 < ((⟨#[45]⟩ : ByteArray) ++ b).size) : ((⟨#[45]⟩ : ByteArray) ++ b)[0] = 45 := at_of h (by rw [bytes_data_append]; rfl)
theorem neg_body (b : ByteArray) : ((⟨#[45]⟩ : ByteArray) ++ b).extract 1 ((⟨#[45]⟩ : ByteArray) ++ b).size = b := by
  rw [bytes_of_list (show (((⟨#[45]⟩ : ByteArray) ++ b).extract 1 ((⟨#[45]⟩ : ByteArray) ++ b).size).data.toList = b.data.toList by
    rw [ext_drop, bytes_data_append]; rfl)]
theorem absT_no47 (q : Rat) (hd : q.den = 1) (k : Nat) (h : k < (absT q).size) : (absT q)[k] ≠ 47 := by
  have h1 := byte_at h
  rw [absT_data, if_pos hd, List.append_nil] at h1
  have := (dd_allD _ _ (List.mem_of_getElem? h1)).1
  apply u8_ne
  have h2 : (47 : UInt8).toNat = 47 := rfl
  omega
theorem absT_hit (q : Rat) (hd : q.den ≠ 1) : ∃ h : (decT q.num.natAbs).size < (absT q).size, (absT q)[(decT q.num.natAbs).size] = 47 := by
  have hl : (decT q.num.natAbs).size < (absT q).size := by
    rw [← bsz, ← bsz (absT q), absT_data, if_neg hd, decT_bytes, List.length_append, List.length_cons]; omega
  refine ⟨hl, at_of hl ?_⟩
  rw [absT_data, if_neg hd, ← bsz, decT_bytes, List.getElem?_append_right (Nat.le_refl _), Nat.sub_self]; rfl
theorem absT_before (q : Rat) (hd : q.den ≠ 1) (k : Nat) (h : k < (absT q).size) (hk : k < (decT q.num.natAbs).size) : (absT q)[k] ≠ 47 := by
  have h1 := byte_at h
  rw [← bsz, decT_bytes] at hk
  rw [absT_data, List.getElem?_append_left hk] at h1
  have := (dd_allD _ _ (List.mem_of_getElem? h1)).1
  apply u8_ne
  have h2 : (47 : UInt8).toNat = 47 := rfl
  omega
theorem absT_num (q : Rat) (hd : q.den ≠ 1) : (absT q).extract 0 (decT q.num.natAbs).size = decT q.num.natAbs := by
  rw [bytes_of_list (show ((absT q).extract 0 (decT q.num.natAbs).size).data.toList = Lib.decDigits q.num.natAbs by
    rw [ext_take, absT_data, ← bsz, decT_bytes, List.take_left])]
  rfl
theorem absT_den (q : Rat) (hd : q.den ≠ 1) : (absT q).extract ((decT q.num.natAbs).size + 1) (absT q).size = decT q.den := by
  rw [bytes_of_list (show ((absT q).extract ((decT q.num.natAbs).size + 1) (absT q).size).data.toList = Lib.decDigits q.den by
    rw [ext_drop, absT_data, if_neg hd, ← bsz, decT_bytes, ← List.drop_drop, List.drop_left]; rfl)]
  rfl
theorem decT_one : decT 1 = ⟨#[49]⟩ := decT_one_iff.2 rfl
theorem absT_int (q : Rat) (hd : q.den = 1) : absT q = decT q.num.natAbs := by unfold absT; rw [if_pos hd]

theorem rparts_any (q : Rat) (w : World) (hs : (ratT q).size ≤ 9223372036854775806) :
    Calls Tryz.prog 82 #[.string (ratT q)] w fun e w' => e = .returned (.tuple #[.bool (decide (q.num < 0)), .string (decT q.num.natAbs), .string (decT q.den)]) ∧ Ext w w' := by
  rw [ratT_abs] at hs ⊢
  by_cases hn : q.num < 0
  · rw [if_pos hn] at hs ⊢
    rw [decide_eq_true hn]
    have hp : 0 < ((⟨#[45]⟩ : ByteArray) ++ absT q).size := by rw [ByteArray.size_append]; exact Nat.lt_of_lt_of_le Nat.one_pos (Nat.le_add_right _ _)
    by_cases hd : q.den = 1
    · exact rparts_neg_miss _ (absT q) _ _ w hs hp (neg_first _ hp) (neg_body _) (absT_no47 q hd) (absT_int q hd).symm (by rw [hd, decT_one])
    · obtain ⟨h1, h2⟩ := absT_hit q hd
      exact rparts_neg_hit _ (absT q) _ _ _ w hs hp (neg_first _ hp) (neg_body _) h1 h2 (absT_before q hd) (absT_num q hd) (absT_den q hd)
  · rw [if_neg hn] at hs ⊢
    rw [decide_eq_false hn]
    by_cases hd : q.den = 1
    · exact rparts_pos_miss _ (absT q) _ _ w hs (absT_pos q) (absT_first q _) rfl (absT_no47 q hd) (absT_int q hd).symm (by rw [hd, decT_one])
    · obtain ⟨h1, h2⟩ := absT_hit q hd
      exact rparts_pos_hit _ (absT q) _ _ _ w hs (absT_pos q) (absT_first q _) rfl h1 h2 (absT_before q hd) (absT_num q hd) (absT_den q hd)
theorem ratT_size {k : Nat} {q : Rat} (h : RB k q) : (ratT q).size ≤ 2 * k + 4 := by
  have h1 := dd_len_le h.1
  have h2 := dd_len_le h.2
  have h3 : (absT q).size ≤ 2 * k + 3 := by
    rw [← bsz, absT_data, List.length_append]
    split
    · simp; omega
    · rw [List.length_cons]; omega
  rw [ratT_abs]
  split
  · rw [ByteArray.size_append]
    have : (⟨#[45]⟩ : ByteArray).size = 1 := rfl
    omega
  · omega

/-- a valid text is the text of its number -/
theorem text_ratT {s : ByteArray} (h : RatOk s) : s = ratT (ratOf s) := by
  obtain ⟨p1, p2⟩ := ratOf_parts h
  have hb : bodyB s = absT (ratOf s) := by
    unfold absT
    rw [p1, p2, sg_abs, ← text_of h.n1]
    rcases ixB_cases (bodyB s) 47 with hm | ⟨i, hi, hib⟩
    · have hK : hasD s = false := cutK_miss hm
      have hnb : numT s = bodyB s := cutA_miss hm
      have hdn : denN s = 1 := by unfold denN; rw [hK]; rfl
      rw [hdn, if_pos rfl, hnb]
    · have hK : hasD s = true := cutK_hit hi
      unfold denN
      rw [if_pos hK, if_neg (h.d4 hK), ← text_of (h.d1 hK)]
      have hnb : numT s = (bodyB s).extract 0 i := cutA_hit hi
      have hdb : denT s = (bodyB s).extract (i + 1) (bodyB s).size := cutR_hit hi
      obtain ⟨b1, b2⟩ := Lib.indexByte_some (o := i) hi
      rw [byte_at hib] at b1
      have h47 : (bodyB s)[i] = 47 := Option.some.inj b1
      have hdr := bdrop (s := bodyB s) (k := i) hib
      have hall : (bodyB s).data.toList = (numT s ++ ((⟨#[47]⟩ : ByteArray) ++ denT s)).data.toList := by
        rw [bytes_data_append, bytes_data_append, hnb, hdb, ext_take, ext_drop, ← h47]
        show _ = (bodyB s).data.toList.take i ++ ((bodyB s)[i] :: (bodyB s).data.toList.drop (i + 1))
        rw [← hdr, List.take_append_drop]
      exact bytes_of_list hall
  rw [ratT_abs, ← hb, p1]
  cases hq : negB s
  · rw [show sg false (numB (numT s)) = (numB (numT s) : Int) from rfl, if_neg (by omega)]
    have : bodyB s = s := by
      unfold bodyB Lib.trimPrefix
      rw [show Lib.hasPrefix s.data.toList [45] = false from hq, if_neg (by simp)]
    rw [this]
  · have h0 := h.ng hq
    rw [show sg true (numB (numT s)) = -(numB (numT s) : Int) from rfl, if_pos (by omega)]
    have hp : Lib.hasPrefix s.data.toList [45] = true := hq
    have hb2 : (bodyB s).data.toList = s.data.toList.drop 1 := by
      unfold bodyB Lib.trimPrefix
      rw [hp, if_pos rfl]; rfl
    cases hl : s.data.toList with
    | nil => rw [hl] at hp; cases hp
    | cons c l =>
      have hc : c = 45 := by
        rw [hl] at hp
        have : ((45 : UInt8) == c && _) = true := hp
        rw [Bool.and_eq_true] at this
        exact (beq_iff_eq.1 this.1).symm
      have : s.data.toList = ((⟨#[45]⟩ : ByteArray) ++ bodyB s).data.toList := by
        rw [bytes_data_append, hb2, hl, hc]; rfl
      exact bytes_of_list this
theorem ratOf_RB {s : ByteArray} {k : Nat} (h : RatOk s) (hk : s.size ≤ k) (h1 : 1 ≤ k) : RB k (ratOf s) := by
  obtain ⟨p1, p2⟩ := ratOf_parts h
  have hn := numT_le s
  have hd := denT_le s
  have hlt : ∀ {b : ByteArray}, natB b.data.toList = true → b.size ≤ k → numB b < 10 ^ k := fun hb hz => by
    have := decF_lt (natB_iff.1 hb).1
    rw [bsz] at this
    exact Nat.lt_of_lt_of_le this (Nat.pow_le_pow_right (by omega) hz)
  refine ⟨?_, ?_⟩
  · rw [p1, sg_abs]; exact hlt h.n1 (by omega)
  · rw [p2]
    unfold denN
    split
    · rename_i hh; exact hlt (h.d1 hh) (by omega)
    · exact Nat.lt_of_lt_of_le (by decide : 1 < 10 ^ 1) (Nat.pow_le_pow_right (by omega) h1)
end Go.Proofs.YtmmdfijjpeglgaaGreatDoor
