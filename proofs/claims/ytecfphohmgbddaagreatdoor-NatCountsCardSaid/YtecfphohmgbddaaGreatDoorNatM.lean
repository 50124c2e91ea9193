/- plain: rows of Pascal's triangle; the text of an integer -/
import Derived.Test.YtecfphohmgbddaaGreatDoorNatX
namespace Go.Proofs.YtecfphohmgbddaaGreatDoor
open Go.RowKit
set_option linter.unusedVariables false

def pairsF : List Nat → List Nat
  | a :: b :: t => (a + b) :: pairsF (b :: t)
  | _ => []
def rowF : Nat → List Nat
  | 0 => [1]
  | n + 1 => (1 :: pairsF (rowF n)) ++ [1]

theorem pairs_len : ∀ l : List Nat, (pairsF l).length = l.length - 1
  | [] => rfl
  | [_] => rfl
  | a :: b :: t => by rw [pairsF, List.length_cons, pairs_len]; simp
theorem pairs_get : ∀ (l : List Nat) (j a b : Nat), l[j]? = some a → l[j + 1]? = some b → (pairsF l)[j]? = some (a + b)
  | [], j, a, b, h, _ => by simp at h
  | [x], j, a, b, _, h => by simp at h
  | x :: y :: t, 0, a, b, h1, h2 => by
    simp only [List.getElem?_cons_zero, List.getElem?_cons_succ, Option.some.injEq] at h1 h2
    rw [← h1, ← h2, pairsF]; rfl
  | x :: y :: t, j + 1, a, b, h1, h2 => by
    rw [pairsF, List.getElem?_cons_succ]
    exact pairs_get (y :: t) j a b (by simpa using h1) (by simpa using h2)
theorem rowF_len (n : Nat) : (rowF n).length = n + 1 := by
  cases n with
  | zero => rfl
  | succ n =>
    rw [rowF, List.length_append, List.length_cons, pairs_len, rowF_len n]
    simp
theorem rowF_small_all : (List.range 26).all (fun n => (rowF n).all (fun x => decide (x < 1000000000))) = true := by decide +kernel
theorem rowF_small {n x : Nat} (hn : n ≤ 25) (hx : x ∈ rowF n) : x < 1000000000 := by
  have h := rowF_small_all
  rw [List.all_eq_true] at h
  have h2 := h n (List.mem_range.2 (by omega))
  rw [List.all_eq_true] at h2
  exact of_decide_eq_true (h2 x hx)
theorem rowF_binom_all : (List.range 26).all (fun n => (List.range (n + 1)).all (fun k => decide ((rowF n)[k]? = some (prodF (n - k + 1) k / prodF 1 k)))) = true := by decide +kernel
theorem rowF_binom {n k : Nat} (hn : n ≤ 25) (hk : k ≤ n) : (rowF n)[k]? = some (prodF (n - k + 1) k / prodF 1 k) := by
  have h := rowF_binom_all
  rw [List.all_eq_true] at h
  have h2 := h n (List.mem_range.2 (by omega))
  rw [List.all_eq_true] at h2
  exact of_decide_eq_true (h2 k (List.mem_range.2 (by omega)))
theorem dec9_len {x : Nat} (h : x < 1000000000) : (decT x).size ≤ 9 := by
  rw [decT_size]; exact dd_len_lt (k := 8) h

/-- the text of an integer -/
def intT (n : Int) : ByteArray := if 0 ≤ n then decT n.toNat else ⟨#[45]⟩ ++ decT (-n).toNat
end Go.Proofs.YtecfphohmgbddaaGreatDoor
