/- plain: the product of the reference, digit by digit -/
import Derived.Test.YtecfphohmgbddaaGreatDoorNatS
namespace Go.Proofs.YtecfphohmgbddaaGreatDoor
open Go.RowKit
set_option linter.unusedVariables false

/-- every entry keeps its bound -/
def LeAt (f : Nat → Nat) (o : List Nat) : Prop := ∀ j x, o[j]? = some x → x ≤ f j

theorem v10_set : ∀ (o : List Nat) (j x y : Nat), o[j]? = some x → v10 (o.set j y) + tenP j * x = v10 o + tenP j * y
  | [], j, x, y, h => by simp at h
  | a :: t, 0, x, y, h => by
    simp only [List.getElem?_cons_zero, Option.some.injEq] at h
    subst h
    simp only [List.set_cons_zero, v10, tenP, Nat.pow_zero, Nat.one_mul]
    omega
  | a :: t, j + 1, x, y, h => by
    have ih := v10_set t j x y (by simpa using h)
    rw [List.set_cons_succ, v10, v10, tenP_succ, Nat.mul_comm (tenP j) 10, Nat.mul_assoc, Nat.mul_assoc]
    omega

theorem LeAt.set {f : Nat → Nat} {o : List Nat} {j y : Nat} (h : LeAt f o) (hy : y ≤ f j) : LeAt f (o.set j y) := by
  intro k x hx
  rw [List.getElem?_set] at hx
  split at hx
  · rename_i e
    split at hx
    · cases hx; rw [← e]; exact hy
    · cases hx
  · exact h k x hx
theorem LeAt.mono {f g : Nat → Nat} {o : List Nat} (h : LeAt f o) (hg : ∀ j, j < o.length → f j ≤ g j) : LeAt g o :=
  fun j x hx => Nat.le_trans (h j x hx) (hg j (List.getElem?_eq_some_iff.1 hx).1)
theorem D9.leAt {o : List Nat} (h : D9 o) : LeAt (fun _ => 9) o := fun j x hx => h x (List.mem_of_getElem? hx)

/-- one row of products so far -/
def MI (L : Nat) (db : List Nat) (x i k : Nat) (o : List Nat) (V0 : Nat) : Prop :=
  o.length = L ∧ LeAt (fun j => if j < i + k then 90 else 9) o ∧ v10 o = V0 + tenP i * (x * v10 (db.take k))

theorem MI.start {L i x : Nat} {db o : List Nat} (hl : o.length = L) (h : D9 o) : MI L db x i 0 o (v10 o) :=
  ⟨hl, h.leAt.mono (fun j _ => by split <;> omega), by simp [v10]⟩
theorem v10_take {l : List Nat} {k y : Nat} (h : l[k]? = some y) : v10 (l.take (k + 1)) = v10 (l.take k) + tenP k * y := by
  obtain ⟨h1, h2⟩ := List.getElem?_eq_some_iff.1 h
  rw [List.take_succ_eq_append_getElem h1, h2, v10_snoc, List.length_take, Nat.min_eq_left (by omega)]
theorem MI.step {L i x k y e : Nat} {db o : List Nat} {V0 : Nat} (h : MI L db x i k o V0) (hx : x ≤ 9) (hy9 : y ≤ 9) (hy : db[k]? = some y) (he : o[i + k]? = some e) :
    e ≤ 9 ∧ MI L db x i (k + 1) (o.set (i + k) (e + x * y)) V0 := by
  obtain ⟨h1, h2, h3⟩ := h
  have he9 := h2 _ _ he
  simp only [Nat.lt_irrefl, if_false] at he9
  have hxy : x * y ≤ 9 * 9 := Nat.mul_le_mul hx hy9
  refine ⟨he9, by rw [List.length_set, h1], ?_, ?_⟩
  · apply LeAt.set
    · exact h2.mono (fun j _ => by (repeat' split) <;> omega)
    · rw [if_pos (by omega)]; omega
  · have e1 := v10_set o (i + k) e (e + x * y) he
    rw [Nat.mul_add, h3] at e1
    rw [v10_take hy, Nat.mul_add x, Nat.mul_add (tenP i), Nat.mul_left_comm x, ← Nat.mul_assoc (tenP i) (tenP k), tenP_add]
    omega
theorem MI.stop {L i x : Nat} {db o : List Nat} {V0 k : Nat} (h : MI L db x i k o V0) (hk : db.length = k) :
    o.length = L ∧ LeAt (fun _ => 90) o ∧ v10 o = V0 + tenP i * (x * v10 db) := by
  obtain ⟨h1, h2, h3⟩ := h
  rw [← hk, List.take_length] at h3
  exact ⟨h1, h2.mono (fun j _ => by split <;> omega), h3⟩

/-- the carries so far -/
def CI (L k : Nat) (o : List Nat) (V : Nat) : Prop :=
  o.length = L ∧ LeAt (fun j => if j < k then 9 else if j = k then 99 else 90) o ∧ v10 o = V
theorem CI.start {L V : Nat} {o : List Nat} (h1 : o.length = L) (h2 : LeAt (fun _ => 90) o) (h3 : v10 o = V) : CI L 0 o V :=
  ⟨h1, h2.mono (fun j _ => by (repeat' split) <;> omega), h3⟩
theorem CI.small {L k V e : Nat} {o : List Nat} (h : CI L k o V) (he : o[k]? = some e) (h9 : e ≤ 9) : CI L (k + 1) o V := by
  obtain ⟨h1, h2, h3⟩ := h
  refine ⟨h1, ?_, h3⟩
  intro j x hx
  have := h2 j x hx
  by_cases hj : j = k
  · subst hj
    rw [he] at hx
    cases hx
    dsimp only; rw [if_pos (by omega)]; exact h9
  · revert this
    simp only
    (repeat' split) <;> omega
theorem CI.big {L k V e f : Nat} {o : List Nat} (h : CI L k o V) (he : o[k]? = some e) (hf : o[k + 1]? = some f) :
    e ≤ 99 ∧ f ≤ 90 ∧ CI L (k + 1) ((o.set (k + 1) (f + e / 10)).set k (e % 10)) V := by
  obtain ⟨h1, h2, h3⟩ := h
  have be := h2 _ _ he
  have bf := h2 _ _ hf
  simp only [Nat.lt_irrefl, if_false, if_true] at be
  simp only [show ¬ (k + 1 < k) by omega, show ¬ (k + 1 = k) by omega, if_false] at bf
  refine ⟨be, bf, by rw [List.length_set, List.length_set, h1], ?_, ?_⟩
  · intro j x hx
    rw [List.getElem?_set, List.getElem?_set] at hx
    by_cases hj : k = j
    · subst hj
      rw [if_pos rfl] at hx
      split at hx
      · cases hx; dsimp only; rw [if_pos (by omega)]; omega
      · cases hx
    · rw [if_neg hj] at hx
      by_cases hj2 : k + 1 = j
      · subst hj2
        rw [if_pos rfl] at hx
        split at hx
        · cases hx; dsimp only; rw [if_neg (by omega), if_pos rfl]; omega
        · cases hx
      · rw [if_neg hj2] at hx
        have := h2 j x hx
        revert this
        simp only
        (repeat' split) <;> omega
  · have e1 := v10_set o (k + 1) f (f + e / 10) hf
    have hk : (o.set (k + 1) (f + e / 10))[k]? = some e := by rw [List.getElem?_set_ne (by omega)]; exact he
    have e2 := v10_set _ k e (e % 10) hk
    rw [Nat.mul_add, tenP_succ, h3] at e1
    have e3 : tenP k * e = tenP k * 10 * (e / 10) + tenP k * (e % 10) := by
      rw [Nat.mul_assoc, ← Nat.mul_add]; congr 1; omega
    omega
theorem CI.stop {n k V : Nat} {o : List Nat} (h : CI (n + 1) k o V) (hk : k = n) (hV : V < tenP n) : o.length = n + 1 ∧ D9 o ∧ v10 o = V := by
  subst hk
  obtain ⟨h1, h2, h3⟩ := h
  refine ⟨h1, ?_, h3⟩
  have hz : o.getD k 0 = 0 := by
    have hs : o = o.take k ++ o.drop k := (List.take_append_drop k o).symm
    have e1 := v10_append (o.take k) (o.drop k)
    rw [← hs, List.length_take, Nat.min_eq_left (by omega), h3, v10_drop] at e1
    rcases Nat.eq_zero_or_pos (o.getD k 0) with h | h
    · exact h
    · exfalso
      have := Nat.mul_le_mul_left (tenP k) (show 1 ≤ o.getD k 0 + 10 * v10 (o.drop (k + 1)) by omega)
      omega
  intro d hd
  obtain ⟨j, hj⟩ := List.mem_iff_getElem?.1 hd
  have hjl := (List.getElem?_eq_some_iff.1 hj).1
  have := h2 j d hj
  by_cases hjk : j = k
  · subst hjk
    rw [List.getD_eq_getElem?_getD, hj] at hz
    have : d = 0 := hz
    omega
  · dsimp only at this; rw [if_pos (by omega)] at this; exact this

/-- the rows so far -/
def OI (L : Nat) (da db : List Nat) (i : Nat) (o : List Nat) : Prop := o.length = L ∧ D9 o ∧ v10 o = v10 (da.take i) * v10 db
theorem v10_zeros (n : Nat) : v10 (List.replicate n 0) = 0 := by
  induction n with
  | zero => rfl
  | succ n ih => rw [List.replicate_succ, v10, ih]
theorem OI.start (L : Nat) (da db : List Nat) : OI L da db 0 (List.replicate L 0) :=
  ⟨by simp, fun d hd => by rw [(List.mem_replicate.1 hd).2]; omega, by rw [v10_zeros]; simp [v10]⟩
/-- the value behind one row, and its size -/
theorem row_val {da db : List Nat} {i x : Nat} (ha : D9 da) (hb : D9 db) (hx : da[i]? = some x) :
    v10 (da.take i) * v10 db + tenP i * (x * v10 db) = v10 (da.take (i + 1)) * v10 db ∧ v10 (da.take (i + 1)) * v10 db < tenP (da.length + db.length) := by
  refine ⟨by rw [v10_take hx, Nat.add_mul, Nat.mul_assoc], ?_⟩
  have h1 : v10 (da.take (i + 1)) < tenP (da.take (i + 1)).length := v10_lt (fun d hd => ha d (List.mem_of_mem_take hd))
  have h2 := v10_lt hb
  have h3 : tenP (da.take (i + 1)).length ≤ tenP da.length := tenP_le (by rw [List.length_take]; omega)
  rw [← tenP_add]
  calc v10 (da.take (i + 1)) * v10 db ≤ v10 (da.take (i + 1)) * tenP db.length := Nat.mul_le_mul_left _ (Nat.le_of_lt h2)
    _ < tenP da.length * tenP db.length := Nat.mul_lt_mul_of_pos_right (Nat.lt_of_lt_of_le h1 h3) (by omega)
theorem OI.stop {L i : Nat} {da db o : List Nat} (h : OI L da db i o) (hi : da.length = i) : D9 o ∧ v10 o = v10 da * v10 db := by
  obtain ⟨h1, h2, h3⟩ := h
  rw [← hi, List.take_length] at h3
  exact ⟨h2, h3⟩
end Go.Proofs.YtecfphohmgbddaaGreatDoor
