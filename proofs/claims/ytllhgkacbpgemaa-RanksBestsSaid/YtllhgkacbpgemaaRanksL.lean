/- plain words for hands of cards: how often a rank occurs, straights, pairs, classes and values -/
import Derived.Test.YtllhgkacbpgemaaLibB
namespace Go.Proofs.Ytllhgkacbpgemaa
open Go.RowKit

/-- how often a rank occurs -/
def cntR (xs : List Int) (r : Int) : Nat := xs.countP (fun x => decide (x % 13 = r))
def rnk (h k : Int) : Int := if h - k < 0 then 12 else h - k
def allTo (c : Int → Nat) (h : Int) : Nat → Bool
  | 0 => true
  | k + 1 => allTo c h k && decide (c (rnk h k) = 1)
/-- the highest rank of a straight that is below n + 3 -/
def strD (c : Int → Nat) : Nat → Int
  | 0 => -1
  | n + 1 => if allTo c ((n : Int) + 3) 5 then (n : Int) + 3 else strD c n
/-- pairs of equal ones among the first -/
def prsTo (f : Int → Int) (xs : List Int) : Nat → Nat
  | 0 => 0
  | k + 1 => prsTo f xs k + (xs.take k).countP (fun b => decide (f (xs.getD k 0) = f b))
def clsR (str : Int) (pairs suits : Nat) : Int :=
  if 0 ≤ str ∧ suits = 10 then 8 else if pairs = 6 then 7 else if pairs = 4 then 6 else if suits = 10 then 5 else if 0 ≤ str then 4 else pairs

theorem countP_take_lt {α : Type} {p : α → Bool} {xs : List α} {k : Nat} {x : α} (h : Hid (xs.take (k + 1) = xs.take k ++ [x])) : (xs.take (k + 1)).countP p = (xs.take k).countP p + if p x then 1 else 0 := by
  rw [h.out, List.countP_append]; simp [List.countP_cons]

theorem prsTo_le (f : Int → Int) (xs : List Int) : ∀ k, prsTo f xs k ≤ k * k
  | 0 => Nat.le_refl _
  | k + 1 => by
    have h1 := prsTo_le f xs k
    have h2 := List.countP_le_length (p := fun b => decide (f (xs.getD k 0) = f b)) (l := xs.take k)
    have h3 : (xs.take k).length ≤ k := List.length_take_le _ _
    rw [prsTo]
    have : (k + 1) * (k + 1) = k * k + 2 * k + 1 := by rw [Nat.succ_mul, Nat.mul_succ]; omega
    omega

def digRow (c : Int → Nat) (m : Nat) : Nat → List Int
  | 0 => []
  | n + 1 => (if c n = m then [(n : Int)] else []) ++ digRow c m n
def digAll (c : Int → Nat) : Nat → List Int
  | 0 => []
  | m + 1 => digRow c (m + 1) 13 ++ digAll c m
def digs (c : Int → Nat) (s : Int) : List Int := if 0 ≤ s then [s] else digAll c 4
def padF (l : List Int) : List Int := l ++ List.replicate (5 - l.length) 0
def valF (n : Int) (l : List Int) : Int := l.foldl (fun a d => 13 * a + d) n

theorem digRow_len (c : Int → Nat) (m : Nat) : ∀ n, (digRow c m n).length ≤ n
  | 0 => Nat.le_refl _
  | n + 1 => by
    have := digRow_len c m n
    rw [digRow, List.length_append]
    split <;> simp <;> omega
theorem digAll_len (c : Int → Nat) : ∀ m, (digAll c m).length ≤ 13 * m
  | 0 => Nat.le_refl _
  | m + 1 => by
    have := digAll_len c m
    have := digRow_len c (m + 1) 13
    rw [digAll, List.length_append]
    omega
end Go.Proofs.Ytllhgkacbpgemaa
