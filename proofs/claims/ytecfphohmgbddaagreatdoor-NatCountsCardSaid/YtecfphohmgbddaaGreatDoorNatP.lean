/- plain: decimal digits, least first, as the reference reckons with them -/
import Derived.Test.YtecfphohmgbddaaGreatDoorNatG
namespace Go.Proofs.YtecfphohmgbddaaGreatDoor
open Go.RowKit
set_option linter.unusedVariables false

/-- the number of digits, least first -/
def v10 : List Nat → Nat
  | [] => 0
  | a :: t => a + 10 * v10 t
def D9 (l : List Nat) : Prop := ∀ d ∈ l, d ≤ 9
/-- a text's digits, least first -/
def rd (l : List UInt8) : List Nat := l.reverse.map (fun b => b.toNat - 48)
/-- the text of digits -/
def bl (ds : List Nat) : List UInt8 := ds.reverse.map (fun d => (48 + d).toUInt8)

theorem v10_append (x y : List Nat) : v10 (x ++ y) = v10 x + tenP x.length * v10 y := by
  induction x with
  | nil => simp [v10, tenP]
  | cons a t ih =>
    rw [List.cons_append, v10, ih, v10, List.length_cons, tenP_succ, Nat.mul_add, Nat.mul_comm (tenP t.length) 10, Nat.mul_assoc]
    omega
theorem v10_snoc (x : List Nat) (d : Nat) : v10 (x ++ [d]) = v10 x + tenP x.length * d := by
  rw [v10_append]; simp [v10]
theorem v10_lt {l : List Nat} (h : D9 l) : v10 l < tenP l.length := by
  induction l with
  | nil => exact Nat.one_pos
  | cons a t ih =>
    have h1 := ih (fun d hd => h d (List.mem_cons_of_mem _ hd))
    have h2 := h a (List.mem_cons_self ..)
    rw [v10, List.length_cons, tenP_succ]
    omega
theorem v10_drop (l : List Nat) (i : Nat) : v10 (l.drop i) = l.getD i 0 + 10 * v10 (l.drop (i + 1)) := by
  by_cases h : i < l.length
  · rw [List.drop_eq_getElem_cons h, v10, List.getD_eq_getElem?_getD, List.getElem?_eq_getElem h]; rfl
  · rw [List.drop_eq_nil_of_le (by omega), List.drop_eq_nil_of_le (by omega), List.getD_eq_getElem?_getD, List.getElem?_eq_none (by omega)]; rfl

theorem v10_rd (l : List UInt8) : v10 (rd l) = decF 0 l := by
  have h : ∀ m : List UInt8, v10 (rd m.reverse) = decF 0 m.reverse := by
    intro m
    induction m with
    | nil => rfl
    | cons d t ih =>
      rw [List.reverse_cons, decF_append, decF_cons, decF_nil, ← ih]
      unfold rd
      rw [List.reverse_append, List.reverse_reverse]
      simp only [List.reverse_cons, List.reverse_nil, List.nil_append, List.cons_append, List.map_cons, v10]
      omega
  have := h l.reverse
  rwa [List.reverse_reverse] at this
theorem rd_length (l : List UInt8) : (rd l).length = l.length := by simp [rd]
theorem rd_D9 {l : List UInt8} (h : AllD l) : D9 (rd l) := by
  intro d hd
  unfold rd at hd
  rw [List.mem_map] at hd
  obtain ⟨b, hb, rfl⟩ := hd
  have := h b (List.mem_reverse.1 hb)
  omega
theorem rd_get {l : List UInt8} {k : Nat} (h : k < l.length) : (rd l).getD k 0 = (l[l.length - 1 - k]'(by omega)).toNat - 48 := by
  rw [List.getD_eq_getElem?_getD, List.getElem?_eq_getElem (by rw [rd_length]; exact h), Option.getD_some]
  unfold rd
  rw [List.getElem_map, List.getElem_reverse]
theorem rd_none {l : List UInt8} {k : Nat} (h : l.length ≤ k) : (rd l).getD k 0 = 0 := by
  rw [List.getD_eq_getElem?_getD, List.getElem?_eq_none (by rw [rd_length]; exact h)]; rfl
theorem getD_le {l : List Nat} (h : D9 l) (k : Nat) : l.getD k 0 ≤ 9 := by
  by_cases hk : k < l.length
  · rw [List.getD_eq_getElem?_getD, List.getElem?_eq_getElem hk]
    exact h _ (List.getElem_mem ..)
  · rw [List.getD_eq_getElem?_getD, List.getElem?_eq_none (by omega)]; exact Nat.zero_le _

theorem byte48 {d : Nat} (h : d ≤ 9) : ((48 + d).toUInt8).toNat = 48 + d := by
  simp [Nat.toUInt8, UInt8.toNat_ofNat']; omega
theorem bl_allD {ds : List Nat} (h : D9 ds) : AllD (bl ds) := by
  intro b hb
  unfold bl at hb
  rw [List.mem_map] at hb
  obtain ⟨d, hd, rfl⟩ := hb
  have := h d (List.mem_reverse.1 hd)
  rw [byte48 this]; omega
theorem rd_bl {ds : List Nat} (h : D9 ds) : rd (bl ds) = ds := by
  unfold rd bl
  rw [← List.map_reverse, List.reverse_reverse, List.map_map]
  conv => rhs; rw [← List.map_id ds]
  apply List.map_congr_left
  intro d hd
  show ((48 + d).toUInt8).toNat - 48 = d
  rw [byte48 (h d hd)]; omega
theorem text_dd {ds : List Nat} (h : D9 ds) : stripL (48 :: bl ds) = Lib.decDigits (v10 ds) := by
  have ha : AllD (48 :: bl ds) := by
    intro b hb
    rcases List.mem_cons.1 hb with rfl | hb
    · decide
    · exact bl_allD h b hb
  rw [stripL_dd ha (by simp), decF_cons]
  have : (0 * 10 + ((48 : UInt8).toNat - 48)) = 0 := by decide
  rw [this, ← v10_rd, rd_bl h]

/-- the digits of a sum so far -/
def AddI (da db : List Nat) (i c : Nat) (out : List Nat) (S : Nat) : Prop :=
  out.length = i ∧ D9 out ∧ c ≤ 1 ∧ v10 out + tenP i * (v10 (da.drop i) + v10 (db.drop i) + c) = S
theorem D9.snoc {l : List Nat} {d : Nat} (h : D9 l) (hd : d ≤ 9) : D9 (l ++ [d]) := by
  intro x hx
  rcases List.mem_append.1 hx with hx | hx
  · exact h x hx
  · rw [List.mem_singleton] at hx; omega
theorem AddI.start (da db : List Nat) : AddI da db 0 0 [] (v10 da + v10 db) :=
  ⟨rfl, fun d hd => (by cases hd), by omega, by simp [v10, tenP]⟩
theorem AddI.step {da db : List Nat} {i c : Nat} {out : List Nat} {S x : Nat} (ha : D9 da) (hb : D9 db) (h : AddI da db i c out S) (hx : da.getD i 0 + db.getD i 0 + c = x) :
    AddI da db (i + 1) (x / 10) (out ++ [x % 10]) S ∧ x ≤ 19 := by
  obtain ⟨h1, h2, h3, h4⟩ := h
  have ga := getD_le ha i
  have gb := getD_le hb i
  refine ⟨⟨by simp [h1], h2.snoc (by omega), by omega, ?_⟩, by omega⟩
  rw [v10_snoc, h1, tenP_succ, ← h4, v10_drop da i, v10_drop db i, Nat.mul_assoc, Nat.add_assoc, ← Nat.mul_add]
  congr 2
  omega
theorem AddI.stop {da db : List Nat} {i : Nat} {out : List Nat} {S : Nat} (h : AddI da db i 0 out S) (ha : da.length ≤ i) (hb : db.length ≤ i) : v10 out = S := by
  obtain ⟨h1, h2, h3, h4⟩ := h
  rw [List.drop_eq_nil_of_le ha, List.drop_eq_nil_of_le hb] at h4
  simpa [v10] using h4

/-- the digits of a difference so far -/
def SubI (da db : List Nat) (i c : Nat) (out : List Nat) : Prop :=
  out.length = i ∧ D9 out ∧ c ≤ 1 ∧ v10 out + tenP i * v10 (da.drop i) + v10 db = v10 da + tenP i * (v10 (db.drop i) + c)
theorem SubI.start (da db : List Nat) : SubI da db 0 0 [] :=
  ⟨rfl, fun d hd => (by cases hd), by omega, by simp [v10, tenP]⟩
theorem SubI.step {da db : List Nat} {i c c2 d : Nat} {out : List Nat} (h : SubI da db i c out) (hd : d ≤ 9) (hc : c2 ≤ 1) (hx : d + db.getD i 0 + c = da.getD i 0 + 10 * c2) :
    SubI da db (i + 1) c2 (out ++ [d]) := by
  obtain ⟨h1, h2, h3, h4⟩ := h
  refine ⟨by simp [h1], h2.snoc hd, hc, ?_⟩
  rw [v10_drop da i, v10_drop db i] at h4
  rw [v10_snoc, h1, tenP_succ]
  have e := congrArg (tenP i * ·) hx
  simp only [Nat.mul_add, Nat.mul_assoc] at e h4 ⊢
  omega
theorem SubI.stop {da db : List Nat} {i c : Nat} {out : List Nat} (h : SubI da db i c out) (ha : da.length = i) (hle : v10 db ≤ v10 da) : v10 out = v10 da - v10 db := by
  obtain ⟨h1, h2, h3, h4⟩ := h
  rw [List.drop_eq_nil_of_le (by omega)] at h4
  have h5 := v10_lt h2
  rw [h1] at h5
  simp only [v10, Nat.mul_zero, Nat.add_zero] at h4
  generalize v10 (db.drop i) + c = X at h4
  have : X = 0 := by
    rcases Nat.eq_zero_or_pos X with h | h
    · exact h
    · have : tenP i * 1 ≤ tenP i * X := Nat.mul_le_mul_left _ h
      omega
  subst this
  omega

theorem bytes_less {l m : List UInt8} (hl : AllD l) (hm : AllD m) (h : l.length = m.length) : Op.bytesLess l m = decide (decF 0 l < decF 0 m) := by
  induction l generalizing m with
  | nil =>
    cases m with
    | nil => rfl
    | cons b y => simp at h
  | cons a x ih =>
    cases m with
    | nil => simp at h
    | cons b y =>
      have hx : AllD x := fun c hc => hl c (List.mem_cons_of_mem _ hc)
      have hy : AllD y := fun c hc => hm c (List.mem_cons_of_mem _ hc)
      have hn : x.length = y.length := by simpa using h
      have ha := hl a (List.mem_cons_self ..)
      have hb := hm b (List.mem_cons_self ..)
      have lx := decF_lt hx
      have ly := decF_lt hy
      rw [Op.bytesLess, ih hx hy hn, decF_cons, decF_cons, Nat.zero_mul, Nat.zero_add, Nat.zero_add, decF_split x (a.toNat - 48), decF_split y (b.toNat - 48), hn]
      rw [hn] at lx
      generalize 10 ^ y.length = T at *
      obtain ⟨p, hp⟩ : ∃ p, a.toNat - 48 = p := ⟨_, rfl⟩
      obtain ⟨q, hq⟩ : ∃ q, b.toNat - 48 = q := ⟨_, rfl⟩
      rw [hp, hq]
      generalize decF 0 x = X at *
      generalize decF 0 y = Y at *
      have e1 : (a < b) ↔ p < q := by rw [UInt8.lt_iff_toNat_lt]; omega
      have e2 : (a = b) ↔ p = q := by rw [← UInt8.toNat_inj]; omega
      by_cases h1 : p < q
      · have : (p + 1) * T ≤ q * T := Nat.mul_le_mul_right _ h1
        rw [Nat.succ_mul] at this
        have h3 : p * T + X < q * T + Y := by omega
        simp [e1, h1, h3]
      · by_cases h2 : p = q
        · subst h2
          have h3 : ¬ a < b := by rw [e1]; omega
          have h4 : a = b := e2.2 rfl
          simp [h4]
        · have : (q + 1) * T ≤ p * T := Nat.mul_le_mul_right _ (by omega)
          rw [Nat.succ_mul] at this
          have h3 : ¬ (p * T + X < q * T + Y) := by omega
          have h4 : ¬ a < b := by rw [e1]; exact h1
          have h5 : ¬ a = b := by rw [e2]; exact h2
          simp [h3, h4, h5]

theorem canon_ge {l : List UInt8} (h : Canon l) (h2 : 1 < l.length) : 10 ^ (l.length - 1) ≤ decF 0 l := by
  obtain ⟨ha, hn, hh⟩ := h
  cases l with
  | nil => exact absurd rfl hn
  | cons b t =>
    have hb := ha b (List.mem_cons_self ..)
    have hb2 : b.toNat ≠ 48 := by
      intro e
      have e2 : b = 48 := UInt8.toNat_inj.1 e
      have := hh (by rw [e2]; rfl)
      omega
    rw [decF_cons, decF_split, List.length_cons, Nat.add_sub_cancel, Nat.zero_mul, Nat.zero_add]
    have : 1 * 10 ^ t.length ≤ (b.toNat - 48) * 10 ^ t.length := Nat.mul_le_mul_right _ (by omega)
    omega
theorem canon_lt {l m : List UInt8} (hl : Canon l) (hm : Canon m) (h : l.length < m.length) : decF 0 l < decF 0 m := by
  have hp : 0 < l.length := List.length_pos_iff.2 hl.2.1
  have h1 := decF_lt hl.1
  have h2 := canon_ge hm (by omega)
  have h3 : 10 ^ l.length ≤ 10 ^ (m.length - 1) := Nat.pow_le_pow_right (by omega) (by omega)
  omega
theorem canon_eq {l m : List UInt8} (hl : Canon l) (hm : Canon m) (h : decF 0 l = decF 0 m) : l = m := by
  rw [canon_dd hl, canon_dd hm, h]
end Go.Proofs.YtecfphohmgbddaaGreatDoor
