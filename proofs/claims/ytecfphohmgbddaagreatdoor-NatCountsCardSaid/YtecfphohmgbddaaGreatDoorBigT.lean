/- plain: a number's text by chunks of nine digits -/
import Derived.Test.YtecfphohmgbddaaGreatDoorBigD
import Derived.Lib.Join
import Derived.Lib.Repeat
namespace Go.Proofs.YtecfphohmgbddaaGreatDoor
set_option linter.unusedVariables false

def decT (n : Nat) : ByteArray := ⟨(Lib.decDigits n).toArray⟩
theorem decT_list (n : Nat) : (decT n).data.toList = Lib.decDigits n := by simp [decT]

def pad9 (r : Nat) : List UInt8 := List.replicate (9 - (Lib.decDigits r).length) 48 ++ Lib.decDigits r

/-- the chunks, the least one first -/
def chunks (n : Nat) : List (List UInt8) :=
  if n = 0 then [] else (if n / 1000000000 = 0 then Lib.decDigits n else pad9 (n % 1000000000)) :: chunks (n / 1000000000)
termination_by n
decreasing_by omega

theorem chunks_zero : chunks 0 = [] := by rw [chunks, if_pos rfl]
theorem chunks_small {n : Nat} (h0 : n ≠ 0) (h : n / 1000000000 = 0) : chunks n = [Lib.decDigits n] := by
  rw [chunks, if_neg h0, if_pos h, h, chunks_zero]
theorem chunks_big {n : Nat} (h : n / 1000000000 ≠ 0) : chunks n = pad9 (n % 1000000000) :: chunks (n / 1000000000) := by
  rw [chunks, if_neg (by omega), if_neg h]

theorem decF_zeros (k : Nat) (l : List UInt8) : decF 0 (List.replicate k 48 ++ l) = decF 0 l := by
  induction k with
  | zero => rfl
  | succ k ih => rw [List.replicate_succ, List.cons_append, decF_cons]; exact ih

theorem dd_len_lt {n k : Nat} (h : n < 10 ^ (k + 1)) : (Lib.decDigits n).length ≤ k + 1 := by
  induction k generalizing n with
  | zero => rw [dd_small (by omega)]; simp
  | succ k ih =>
    by_cases h1 : n < 10
    · rw [dd_small h1]; simp
    · rw [dd_big h1, List.length_append]
      have : n / 10 < 10 ^ (k + 1) := by rw [Nat.pow_succ] at h; omega
      have := ih this
      simp; omega

theorem pad9_len {r : Nat} (h : r < 1000000000) : (pad9 r).length = 9 := by
  have := dd_len_lt (n := r) (k := 8) (by omega)
  unfold pad9
  rw [List.length_append, List.length_replicate]; omega
theorem pad9_allD (r : Nat) : AllD (pad9 r) := by
  unfold pad9
  refine AllD.append ?_ (dd_allD r)
  intro b hb
  rw [(List.mem_replicate.1 hb).2]; decide

theorem dd_split {n : Nat} (h : n / 1000000000 ≠ 0) : Lib.decDigits n = Lib.decDigits (n / 1000000000) ++ pad9 (n % 1000000000) := by
  have hv : decF 0 (Lib.decDigits (n / 1000000000) ++ pad9 (n % 1000000000)) = n := by
    rw [decF_append, decF_dd, decF_split, pad9_len (Nat.mod_lt _ (by omega))]
    have : decF 0 (pad9 (n % 1000000000)) = n % 1000000000 := by unfold pad9; rw [decF_zeros, decF_dd]
    rw [this]; omega
  have hc : Canon (Lib.decDigits (n / 1000000000) ++ pad9 (n % 1000000000)) := by
    refine ⟨(dd_allD _).append (pad9_allD _), by simp [dd_ne], fun hh => ?_⟩
    exfalso
    rw [List.head?_append] at hh
    cases hd : (Lib.decDigits (n / 1000000000)).head? with
    | none => exact dd_ne _ (List.head?_eq_none_iff.1 hd)
    | some x =>
      rw [hd] at hh
      simp at hh
      subst hh
      exact h (dd_head hd)
  have := canon_dd hc
  rw [hv] at this
  exact this.symm

theorem chunks_join {n : Nat} (h : n ≠ 0) : (chunks n).reverse.flatten = Lib.decDigits n := by
  induction n using Nat.strongRecOn with
  | ind n ih =>
    by_cases h1 : n / 1000000000 = 0
    · rw [chunks_small h h1]; simp
    · rw [chunks_big h1, List.reverse_cons, List.flatten_append, ih _ (by omega) h1, dd_split h1]; simp

theorem chunks_len (n : Nat) : (chunks n).length ≤ n := by
  induction n using Nat.strongRecOn with
  | ind n ih =>
    by_cases h0 : n = 0
    · subst h0; rw [chunks_zero]; exact Nat.le_refl _
    · by_cases h1 : n / 1000000000 = 0
      · rw [chunks_small h0 h1]; simp; omega
      · rw [chunks_big h1, List.length_cons]
        have := ih (n / 1000000000) (by omega)
        omega

theorem chunks_ne {n : Nat} (h : n ≠ 0) : chunks n ≠ [] := by
  rw [chunks, if_neg h]; simp

theorem join_empty (xs : List (List UInt8)) : Lib.join xs [] = xs.flatten := by
  cases xs with
  | nil => rfl
  | cons x r => rw [Lib.join_cons, Lib.joinTail]; simp

theorem repeat_zero (k : Nat) : Lib.repeatL [48] k = List.replicate k 48 := by
  induction k with
  | zero => rfl
  | succ k ih => rw [Lib.repeatL, ih, List.replicate_succ]; rfl

/-- all chunks together are as long as the text -/
theorem flatten_mem_len {xs : List (List UInt8)} {k : Nat} (h : ∀ x ∈ xs, 1 ≤ x.length) : xs.length ≤ xs.flatten.length := by
  induction xs with
  | nil => simp
  | cons x t ih =>
    have h1 := h x (by simp)
    have h2 := ih (fun y hy => h y (by simp [hy]))
    rw [List.length_cons, List.flatten_cons, List.length_append]; omega
theorem chunks_pos : ∀ (n : Nat), ∀ x ∈ chunks n, 1 ≤ x.length := by
  intro n
  induction n using Nat.strongRecOn with
  | ind n ih =>
    intro x hx
    by_cases h0 : n = 0
    · subst h0; rw [chunks_zero] at hx; cases hx
    · by_cases h1 : n / 1000000000 = 0
      · rw [chunks_small h0 h1] at hx
        obtain rfl := List.mem_singleton.1 hx
        exact List.length_pos_iff.2 (dd_ne n)
      · rw [chunks_big h1] at hx
        rcases List.mem_cons.1 hx with rfl | hx
        · rw [pad9_len (Nat.mod_lt _ (by omega))]; omega
        · exact ih _ (by omega) x hx
end Go.Proofs.YtecfphohmgbddaaGreatDoor
