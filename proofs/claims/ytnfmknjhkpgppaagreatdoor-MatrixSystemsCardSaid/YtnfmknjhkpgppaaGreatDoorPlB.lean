/- texts merged: DetA DetB DetC Tl -/
import Init
import Derived.StillTail
import Derived.Deep.RegionHeld3
/- plain: determinants of rational matrices: linear and alternating in the columns, alternating in the rows -/
namespace Go.Proofs.YtnfmknjhkpgppaaGreatDoor
set_option linter.unusedVariables false

/-- sums -/
def sumN (f : Nat → Rat) : Nat → Rat
  | 0 => 0
  | n + 1 => sumN f n + f n
theorem sumN_congr {f g : Nat → Rat} : ∀ n, (∀ i, i < n → f i = g i) → sumN f n = sumN g n
  | 0, _ => rfl
  | n + 1, h => by rw [sumN, sumN, sumN_congr n fun i hi => h i (by omega), h n (by omega)]
theorem sumN_lin (f g : Nat → Rat) (x y : Rat) : ∀ n, sumN (fun i => x * f i + y * g i) n = x * sumN f n + y * sumN g n
  | 0 => by rw [sumN, sumN, sumN]; grind
  | n + 1 => by rw [sumN, sumN, sumN, sumN_lin f g x y n]; grind
theorem sumN_zero {f : Nat → Rat} : ∀ n, (∀ i, i < n → f i = 0) → sumN f n = 0
  | 0, _ => rfl
  | n + 1, h => by rw [sumN, sumN_zero n fun i hi => h i (by omega), h n (by omega)]; grind
theorem sumN_two {f : Nat → Rat} {c : Nat} (hc : f c + f (c + 1) = 0) : ∀ n, c + 1 < n → (∀ i, i < n → i ≠ c → i ≠ c + 1 → f i = 0) → sumN f n = 0
  | 0, h, _ => by omega
  | n + 1, h, hz => by
    rw [sumN]
    by_cases hn : n = c + 1
    · subst hn
      rw [sumN, sumN_zero c fun i hi => hz i (by omega) (by omega) (by omega)]
      grind
    · rw [sumN_two hc n (by omega) fun i hi => hz i (by omega), hz n (by omega) (by omega) hn]
      grind
theorem sumN_one {f : Nat → Rat} {c : Nat} : ∀ n, c < n → (∀ i, i < n → i ≠ c → f i = 0) → sumN f n = f c
  | 0, h, _ => by omega
  | n + 1, h, hz => by
    rw [sumN]
    by_cases hn : n = c
    · subst hn
      rw [sumN_zero n fun i hi => hz i (by omega) (by omega)]
      grind
    · rw [sumN_one n (by omega) fun i hi => hz i (by omega), hz n (by omega) hn]
      grind
theorem sumN_swap (f : Nat → Nat → Rat) (m : Nat) : ∀ n, sumN (fun i => sumN (fun j => f i j) m) n = sumN (fun j => sumN (fun i => f i j) n) m
  | 0 => by rw [sumN]; exact (sumN_zero m fun i hi => rfl).symm
  | n + 1 => by
    rw [sumN, sumN_swap f m n]
    have := sumN_lin (fun j => sumN (fun i => f i j) n) (fun j => f n j) 1 1 m
    rw [show (fun j => sumN (fun i => f i j) (n + 1)) = fun j => 1 * sumN (fun i => f i j) n + 1 * f n j from funext fun j => by rw [sumN]; grind, this]
    grind
theorem sumN_neg (f : Nat → Rat) : ∀ n, sumN (fun i => - f i) n = - sumN f n
  | 0 => by rw [sumN, sumN]; grind
  | n + 1 => by rw [sumN, sumN, sumN_neg f n]; grind
theorem sumN_mul (f : Nat → Rat) (x : Rat) : ∀ n, sumN (fun i => x * f i) n = x * sumN f n
  | 0 => by rw [sumN, sumN]; grind
  | n + 1 => by rw [sumN, sumN, sumN_mul f x n]; grind

/-- the index behind one that is left out -/
def skip (k j : Nat) : Nat := if j < k then j else j + 1
def sgnN (k : Nat) : Rat := if k % 2 = 0 then 1 else -1
theorem sgnN_succ (k : Nat) : sgnN (k + 1) = - sgnN k := by
  unfold sgnN
  split <;> split <;> first | omega | grind
/-- the matrix without the first row and a column -/
def minr (A : Nat → Nat → Rat) (k : Nat) : Nat → Nat → Rat := fun i j => A (i + 1) (skip k j)
def det : Nat → (Nat → Nat → Rat) → Rat
  | 0, _ => 1
  | n + 1, A => sumN (fun k => sgnN k * A 0 k * det n (minr A k)) (n + 1)
theorem det_congr : ∀ (n : Nat) (A B : Nat → Nat → Rat), (∀ i j, i < n → j < n → A i j = B i j) → det n A = det n B
  | 0, _, _, _ => rfl
  | n + 1, A, B, h => by
    rw [det, det]
    refine sumN_congr _ fun k hk => ?_
    rw [h 0 k (by omega) hk, det_congr n (minr A k) (minr B k) fun i j hi hj => h _ _ (by omega) (by unfold skip; split <;> omega)]
/-- another column at a place -/
def setC (A : Nat → Nat → Rat) (c : Nat) (v : Nat → Rat) : Nat → Nat → Rat := fun i j => if j = c then v i else A i j
theorem minr_setC (A : Nat → Nat → Rat) (c k : Nat) (v : Nat → Rat) (h : k ≠ c) : minr (setC A c v) k = setC (minr A k) (if c < k then c else c - 1) (fun i => v (i + 1)) := by
  funext i j
  unfold minr setC skip
  by_cases hj : j < k <;> by_cases hc : c < k
  · simp only [hj, hc, if_true]
  · simp only [hj, hc, if_true, if_false]
    rw [if_neg (by omega), if_neg (by omega)]
  · simp only [hj, hc, if_true, if_false]
    rw [if_neg (by omega), if_neg (by omega)]
  · simp only [hj, hc, if_false]
    by_cases h2 : j + 1 = c
    · rw [if_pos h2, if_pos (by omega)]
    · rw [if_neg h2, if_neg (by omega)]
theorem minr_setC_self (A : Nat → Nat → Rat) (c : Nat) (v : Nat → Rat) : minr (setC A c v) c = minr A c := by
  funext i j
  unfold minr setC skip
  (repeat' split) <;> first | rfl | omega
theorem det_lin : ∀ (n : Nat) (A : Nat → Nat → Rat) (c : Nat) (u v : Nat → Rat) (x y : Rat), c < n →
    det n (setC A c fun i => x * u i + y * v i) = x * det n (setC A c u) + y * det n (setC A c v)
  | 0, _, _, _, _, _, _, h => by omega
  | n + 1, A, c, u, v, x, y, hc => by
    rw [det, det, det, ← sumN_lin]
    refine sumN_congr _ fun k hk => ?_
    by_cases h : k = c
    · subst h
      rw [minr_setC_self, minr_setC_self, minr_setC_self]
      simp only [setC, if_true]
      grind
    · rw [minr_setC _ _ _ _ h, minr_setC _ _ _ _ h, minr_setC _ _ _ _ h, det_lin n (minr A k) _ (fun i => u (i + 1)) (fun i => v (i + 1)) x y (by split <;> omega)]
      simp only [setC, if_neg h]
      grind
/-- two equal columns side by side -/
theorem det_adj : ∀ (n : Nat) (A : Nat → Nat → Rat) (c : Nat), c + 1 < n → (∀ i, i < n → A i c = A i (c + 1)) → det n A = 0
  | 0, _, _, h, _ => by omega
  | n + 1, A, c, hc, h => by
    rw [det]
    refine sumN_two (c := c) ?_ _ hc fun k hk h1 h2 => ?_
    · have hm : det n (minr A c) = det n (minr A (c + 1)) := det_congr n _ _ fun i j hi hj => by
        unfold minr skip
        by_cases hj1 : j = c
        · subst hj1
          rw [if_neg (by omega), if_pos (by omega)]
          exact (h (i + 1) (by omega)).symm
        · (repeat' split) <;> first | rfl | omega
      rw [hm, ← h 0 (by omega), sgnN_succ]
      grind
    · rw [det_adj n (minr A k) (if c < k then c else c - 1) (by split <;> omega) fun i hi => ?_]
      · grind
      · unfold minr skip
        have := h (i + 1) (by omega)
        (repeat' split) <;> first | omega | (rw [this]; done) | (rw [show c - 1 + 1 = c by omega]; exact this) | skip
        all_goals first | exact this | (rw [show c - 1 + 1 + 1 = c + 1 by omega]; exact this)
/-- the columns c and c + 1 change places -/
def swpC (A : Nat → Nat → Rat) (c d : Nat) : Nat → Nat → Rat := fun i j => A i (if j = c then d else if j = d then c else j)
theorem setC_comm (A : Nat → Nat → Rat) {c d : Nat} (u v : Nat → Rat) (h : c ≠ d) : setC (setC A c u) d v = setC (setC A d v) c u := by
  funext i j
  unfold setC
  (repeat' split) <;> first | rfl | omega
theorem setC_id (A : Nat → Nat → Rat) (c : Nat) : setC A c (fun i => A i c) = A := by
  funext i j
  unfold setC
  split
  · rename_i h; rw [h]
  · rfl
theorem det_add (n : Nat) (A : Nat → Nat → Rat) (c : Nat) (u v : Nat → Rat) (h : c < n) : det n (setC A c fun i => u i + v i) = det n (setC A c u) + det n (setC A c v) := by
  have := det_lin n A c u v 1 1 h
  rw [show (fun i => 1 * u i + 1 * v i) = fun i => u i + v i from funext fun i => by grind] at this
  rw [this]
  grind
theorem det_swp1 (n : Nat) (A : Nat → Nat → Rat) (c : Nat) (h : c + 1 < n) : det n (swpC A c (c + 1)) = - det n A := by
  have key : ∀ u v : Nat → Rat, det n (setC (setC A c u) (c + 1) v) + det n (setC (setC A c v) (c + 1) u) = 0 := by
    intro u v
    have h0 : det n (setC (setC A c fun i => u i + v i) (c + 1) fun i => u i + v i) = 0 := det_adj n _ c h fun i _ => by
      unfold setC
      rw [if_neg (by omega), if_pos rfl, if_pos rfl]
    have hu : det n (setC (setC A c u) (c + 1) u) = 0 := det_adj n _ c h fun i _ => by
      unfold setC
      rw [if_neg (by omega), if_pos rfl, if_pos rfl]
    have hv : det n (setC (setC A c v) (c + 1) v) = 0 := det_adj n _ c h fun i _ => by
      unfold setC
      rw [if_neg (by omega), if_pos rfl, if_pos rfl]
    have e : ∀ x : Nat → Rat, det n (setC (setC A c fun i => u i + v i) (c + 1) x) = det n (setC (setC A c u) (c + 1) x) + det n (setC (setC A c v) (c + 1) x) := by
      intro x
      rw [setC_comm A (fun i => u i + v i) x (show c ≠ c + 1 by omega), det_add n _ c u v (by omega), setC_comm A u x (show c ≠ c + 1 by omega), setC_comm A v x (show c ≠ c + 1 by omega)]
    rw [det_add n _ (c + 1) u v h, e, e, hu, hv] at h0
    grind
  have h1 := key (fun i => A i c) (fun i => A i (c + 1))
  rw [setC_id, setC_id] at h1
  have h2 : swpC A c (c + 1) = setC (setC A c fun i => A i (c + 1)) (c + 1) fun i => A i c := by
    funext i j
    unfold swpC setC
    by_cases hj : j = c
    · rw [if_pos hj, if_neg (by omega), if_pos hj]
    · rw [if_neg hj]
      by_cases hj2 : j = c + 1
      · rw [if_pos hj2, if_pos hj2]
      · rw [if_neg hj2, if_neg hj2, if_neg hj]
  rw [h2]
  grind
theorem det_eqc (n : Nat) : ∀ (t : Nat) (A : Nat → Nat → Rat) (c : Nat), c + 1 + t < n → (∀ i, i < n → A i c = A i (c + 1 + t)) → det n A = 0
  | 0, A, c, h, he => det_adj n A c (by omega) he
  | t + 1, A, c, h, he => by
    have h1 := det_swp1 n A (c + 1 + t) (by omega)
    have h2 := det_eqc n t (swpC A (c + 1 + t) (c + 1 + t + 1)) c (by omega) fun i hi => by
      unfold swpC
      rw [if_neg (by omega), if_neg (by omega), if_pos rfl]
      exact he i hi
    rw [h2] at h1
    grind
/-- two equal columns -/
theorem det_eq (n : Nat) (A : Nat → Nat → Rat) {c d : Nat} (hc : c < n) (hd : d < n) (hcd : c ≠ d) (he : ∀ i, i < n → A i c = A i d) : det n A = 0 := by
  rcases Nat.lt_or_gt_of_ne hcd with h | h
  · exact det_eqc n (d - c - 1) A c (by omega) (by rw [show c + 1 + (d - c - 1) = d by omega]; exact he)
  · exact det_eqc n (c - d - 1) A d (by omega) (by rw [show d + 1 + (c - d - 1) = c by omega]; exact fun i hi => (he i hi).symm)
theorem det_zeroC (n : Nat) (A : Nat → Nat → Rat) (c : Nat) (h : c < n) : det n (setC A c fun _ => 0) = 0 := by
  have := det_lin n A c (fun _ => 0) (fun _ => 0) 0 0 h
  rw [show (fun i : Nat => (0 : Rat) * 0 + 0 * 0) = fun _ => 0 from funext fun i => by grind] at this
  rw [this]
  grind
/-- a column that is a combination of other ones and a rest -/
theorem det_comb (n : Nat) (A : Nat → Nat → Rat) (c : Nat) (hc : c < n) (x : Nat → Rat) (v : Nat → Rat) : ∀ m, m ≤ n → (det n (setC A c fun i => sumN (fun l => x l * A i l) m + v i) = (if c < m then x c else 0) * det n A + det n (setC A c v))
  | 0, _ => by
    rw [show (fun i => sumN (fun l => x l * A i l) 0 + v i) = v from funext fun i => by rw [sumN]; grind, if_neg (by omega)]
    grind
  | m + 1, h => by
    rw [show (fun i => sumN (fun l => x l * A i l) (m + 1) + v i) = fun i => 1 * (sumN (fun l => x l * A i l) m + v i) + x m * A i m from funext fun i => by rw [sumN]; grind,
      det_lin n A c _ _ _ _ hc, det_comb n A c hc x v m (by omega)]
    by_cases hm : m = c
    · subst hm
      rw [setC_id, if_neg (by omega), if_pos (by omega)]
      grind
    · rw [det_eq n (setC A c fun i => A i m) (c := c) (d := m) hc (by omega) (fun e => hm e.symm) fun i hi => by
        unfold setC
        rw [if_pos rfl, if_neg hm]]
      by_cases h2 : c < m
      · rw [if_pos h2, if_pos (by omega)]; grind
      · rw [if_neg h2, if_neg (by omega)]; grind
/-- the last column is zero but for its end -/
theorem det_last : ∀ (n : Nat) (A : Nat → Nat → Rat), (∀ i, i < n → A i n = 0) → det (n + 1) A = A n n * det n A
  | 0, A, _ => by
    show 0 + sgnN 0 * A 0 0 * 1 = A 0 0 * 1
    unfold sgnN
    rw [if_pos (by omega)]
    grind
  | n + 1, A, h => by
    show sumN (fun k => sgnN k * A 0 k * det (n + 1) (minr A k)) (n + 1) + sgnN (n + 1) * A 0 (n + 1) * det (n + 1) (minr A (n + 1)) = A (n + 1) (n + 1) * sumN (fun k => sgnN k * A 0 k * det n (minr A k)) (n + 1)
    rw [h 0 (by omega)]
    rw [sumN_congr (g := fun k => A (n + 1) (n + 1) * (sgnN k * A 0 k * det n (minr A k))) (n + 1) fun k hk => ?_]
    · rw [sumN_mul]; grind
    · rw [det_last n (minr A k) fun i hi => ?_]
      · unfold minr skip
        rw [if_neg (by omega)]
        grind
      · unfold minr skip
        rw [if_neg (by omega)]
        exact h (i + 1) (by omega)
/-! ### rows -/
theorem sumN_skip (f : Nat → Rat) (k : Nat) : ∀ n, k ≤ n → sumN (fun l => f (skip k l)) n = sumN (fun b => if b = k then 0 else f b) (n + 1)
  | 0, h => by
    obtain rfl : k = 0 := by omega
    show 0 = 0 + (if 0 = 0 then 0 else f 0)
    rw [if_pos rfl]
    grind
  | n + 1, h => by
    by_cases hk : k = n + 1
    · subst hk
      show _ = sumN _ (n + 1) + (if n + 1 = n + 1 then 0 else f (n + 1))
      rw [if_pos rfl, sumN_congr (g := fun b => if b = n + 1 then 0 else f b) (n + 1) fun i hi => ?_]
      · grind
      · unfold skip
        rw [if_pos hi]
        show f i = if i = n + 1 then 0 else f i
        rw [if_neg (by omega)]
    · show sumN _ n + f (skip k n) = sumN _ (n + 1) + (if n + 1 = k then 0 else f (n + 1))
      rw [sumN_skip f k n (by omega), if_neg (by omega)]
      unfold skip
      rw [if_neg (by omega)]
/-- the index behind two that are left out -/
def skp (a b j : Nat) : Nat := if a < b then skip a (skip (b - 1) j) else skip a (skip b j)
theorem skp_comm (a b j : Nat) (h : a ≠ b) : skp a b j = skp b a j := by
  unfold skp skip
  grind
def sg2 (a b : Nat) : Rat := if a < b then sgnN a * sgnN (b - 1) else sgnN a * sgnN b
theorem sg2_comm (a b : Nat) (h : a ≠ b) : sg2 a b = - sg2 b a := by
  unfold sg2
  by_cases hab : a < b
  · rw [if_pos hab, if_neg (by omega), show sgnN b = sgnN (b - 1 + 1) by rw [show b - 1 + 1 = b by omega], sgnN_succ]
    grind
  · rw [if_neg hab, if_pos (by omega), show sgnN a = sgnN (a - 1 + 1) by rw [show a - 1 + 1 = a by omega], sgnN_succ]
    grind
def dd2 (n : Nat) (A : Nat → Nat → Rat) (a b : Nat) : Rat := det n fun i j => A (i + 2) (skp a b j)
theorem det_two (n : Nat) (A : Nat → Nat → Rat) : det (n + 2) A = sumN (fun a => sumN (fun b => if b = a then 0 else sg2 a b * A 0 a * A 1 b * dd2 n A a b) (n + 2)) (n + 2) := by
  show sumN (fun k => sgnN k * A 0 k * sumN (fun l => sgnN l * minr A k 0 l * det n (minr (minr A k) l)) (n + 1)) (n + 2) = _
  refine sumN_congr _ fun k hk => ?_
  rw [← sumN_mul, ← sumN_skip (fun b => sg2 k b * A 0 k * A 1 b * dd2 n A k b) k (n + 1) (by omega)]
  refine sumN_congr _ fun l hl => ?_
  have h1 : dd2 n A k (skip k l) = det n (minr (minr A k) l) := by
    unfold dd2
    congr 1
    funext i j
    unfold minr skp
    by_cases h : l < k
    · rw [show skip k l = l by unfold skip; rw [if_pos h], if_neg (by omega)]
    · rw [show skip k l = l + 1 by unfold skip; rw [if_neg h], if_pos (by omega), show l + 1 - 1 = l by omega]
  have h2 : sg2 k (skip k l) = sgnN k * sgnN l := by
    unfold sg2
    by_cases h : l < k
    · rw [show skip k l = l by unfold skip; rw [if_pos h], if_neg (by omega)]
    · rw [show skip k l = l + 1 by unfold skip; rw [if_neg h], if_pos (by omega), show l + 1 - 1 = l by omega]
  rw [h1, h2]
  show sgnN k * A 0 k * (sgnN l * A 1 (skip k l) * det n (minr (minr A k) l)) = _
  grind
/-- the rows c and d change places -/
def swpR (A : Nat → Nat → Rat) (c d : Nat) : Nat → Nat → Rat := fun i j => A (if i = c then d else if i = d then c else i) j
theorem det_swpR0 (n : Nat) (A : Nat → Nat → Rat) : det (n + 2) (swpR A 0 1) = - det (n + 2) A := by
  rw [det_two, det_two, sumN_swap, ← sumN_neg]
  refine sumN_congr _ fun a ha => ?_
  rw [← sumN_neg]
  refine sumN_congr _ fun b hb => ?_
  by_cases h : b = a
  · rw [if_pos h, if_pos h.symm]; grind
  · rw [if_neg h, if_neg (fun e => h e.symm), sg2_comm b a h]
    have h1 : dd2 n (swpR A 0 1) b a = dd2 n A a b := by
      unfold dd2
      congr 1
      funext i j
      unfold swpR
      rw [if_neg (by omega), if_neg (by omega), skp_comm b a j h]
    rw [h1]
    show - sg2 a b * A 1 b * A 0 a * dd2 n A a b = - (sg2 a b * A 0 a * A 1 b * dd2 n A a b)
    grind
theorem det_swpR1 : ∀ (n : Nat) (A : Nat → Nat → Rat) (c : Nat), c + 1 < n → det n (swpR A c (c + 1)) = - det n A
  | 0, _, _, h => by omega
  | 1, _, _, h => by omega
  | n + 2, A, 0, h => det_swpR0 n A
  | n + 2, A, c + 1, h => by
    show sumN (fun k => sgnN k * swpR A (c + 1) (c + 1 + 1) 0 k * det (n + 1) (minr (swpR A (c + 1) (c + 1 + 1)) k)) (n + 2) = - sumN (fun k => sgnN k * A 0 k * det (n + 1) (minr A k)) (n + 2)
    rw [← sumN_neg]
    refine sumN_congr _ fun k hk => ?_
    have h1 : minr (swpR A (c + 1) (c + 1 + 1)) k = swpR (minr A k) c (c + 1) := by
      funext i j
      unfold minr swpR
      by_cases h1 : i = c
      · rw [if_pos (by omega), if_pos h1]
      · rw [if_neg (by omega), if_neg h1]
        by_cases h2 : i = c + 1
        · rw [if_pos (by omega), if_pos h2]
        · rw [if_neg (by omega), if_neg h2]
    rw [h1, det_swpR1 (n + 1) (minr A k) c (by omega)]
    show sgnN k * A 0 k * _ = _
    grind
theorem det_swpRt (n : Nat) : ∀ (t : Nat) (A : Nat → Nat → Rat) (c : Nat), c + 1 + t < n → det n (swpR A c (c + 1 + t)) = - det n A
  | 0, A, c, h => det_swpR1 n A c h
  | t + 1, A, c, h => by
    have h1 := det_swpR1 n A (c + 1 + t) (by omega)
    have h2 := det_swpRt n t (swpR A (c + 1 + t) (c + 1 + t + 1)) c (by omega)
    have h3 := det_swpR1 n (swpR (swpR A (c + 1 + t) (c + 1 + t + 1)) c (c + 1 + t)) (c + 1 + t) (by omega)
    have h4 : swpR (swpR (swpR A (c + 1 + t) (c + 1 + t + 1)) c (c + 1 + t)) (c + 1 + t) (c + 1 + t + 1) = swpR A c (c + 1 + (t + 1)) := by
      funext i j
      unfold swpR
      show A _ j = A _ j
      congr 1
      grind
    rw [h4, h2, h1] at h3
    rw [h3]
    grind
theorem det_swpR (n : Nat) (A : Nat → Nat → Rat) {c d : Nat} (h : c < d) (hd : d < n) : det n (swpR A c d) = - det n A := by
  have := det_swpRt n (d - c - 1) A c (by omega)
  rwa [show c + 1 + (d - c - 1) = d by omega] at this
end Go.Proofs.YtnfmknjhkpgppaaGreatDoor
/- plain: elimination without fractions: its numbers are determinants; what its end says of the solutions and of the determinant -/
namespace Go.Proofs.YtnfmknjhkpgppaaGreatDoor
set_option linter.unusedVariables false

/-- elimination without fractions: A the matrix (its rows in their new order), M the rows now, k pivots in the columns c, the last pivot d -/
structure Red (n w : Nat) (A M : Nat → Nat → Rat) (k : Nat) (c : Nat → Nat) (d : Rat) : Prop where
  dn : d ≠ 0
  dd : d = det k fun r s => A r (c s)
  pv : ∀ t i, t < k → i < n → M i (c t) = if i = t then d else 0
  up : ∀ i j, i < k → j < w → d * A i j = sumN (fun t => A i (c t) * M t j) k
  lo : ∀ i j, k ≤ i → i < n → j < w → d * A i j = sumN (fun t => A i (c t) * M t j) k + M i j
  cw : ∀ t, t < k → c t < w
  kn : k ≤ n
theorem Red.start (n w : Nat) (A : Nat → Nat → Rat) (c : Nat → Nat) : Red n w A A 0 c 1 :=
  ⟨by decide, rfl, fun t i h _ => by omega, fun i j h _ => by omega, fun i j _ _ _ => by rw [sumN]; grind, fun t h => by omega, Nat.zero_le _⟩
/-- the numbers below the pivots are determinants -/
theorem Red.low {n w : Nat} {A M : Nat → Nat → Rat} {k : Nat} {c : Nat → Nat} {d : Rat} (h : Red n w A M k c d) {i j : Nat} (hi : k ≤ i) (hin : i < n) (hj : j < w) :
    M i j = det (k + 1) fun r s => A (if r < k then r else i) (if s < k then c s else j) := by
  have hd := h.dn
  have key : ∀ r, r < n → A r j = sumN (fun t => (M t j / d) * A r (c t)) k + (if r < k then 0 else M r j / d) := by
    intro r hr
    have e1 : sumN (fun t => (M t j / d) * A r (c t)) k = d⁻¹ * sumN (fun t => A r (c t) * M t j) k := by
      rw [← sumN_mul]
      exact sumN_congr _ fun t ht => by grind
    rw [e1]
    by_cases hrk : r < k
    · have := h.up r j hrk hj
      rw [if_pos hrk]; grind
    · have := h.lo r j (by omega) hr hj
      rw [if_neg hrk]; grind
  let B : Nat → Nat → Rat := fun r s => A (if r < k then r else i) (if s < k then c s else j)
  have hB : det (k + 1) B = det (k + 1) (setC B k fun r => sumN (fun l => (M l j / d) * B r l) k + (if r < k then 0 else M i j / d)) := by
    refine det_congr _ _ _ fun r s hr hs => ?_
    unfold setC
    by_cases hsk : s = k
    · rw [if_pos hsk]
      show A (if r < k then r else i) (if s < k then c s else j) = _
      rw [show (if s < k then c s else j) = j from if_neg (by omega), key _ (by have := h.kn; split <;> omega)]
      congr 1
      · refine sumN_congr _ fun t ht => ?_
        show _ = _ * A (if r < k then r else i) (if t < k then c t else j)
        rw [if_pos ht]
      · by_cases hr2 : r < k
        · rw [if_pos hr2, if_pos hr2, if_pos hr2]
        · rw [if_neg hr2, if_neg hr2, if_neg (by omega)]
    · rw [if_neg hsk]
  show M i j = det (k + 1) B
  rw [hB, det_comb (k + 1) B k (by omega) (fun l => M l j / d) (fun r => if r < k then 0 else M i j / d) k (by omega), if_neg (by omega)]
  rw [det_last k (setC B k fun r => if r < k then 0 else M i j / d) fun r hr => by
    unfold setC
    rw [if_pos rfl]
    exact if_pos hr]
  have e2 : det k (setC B k fun r => if r < k then 0 else M i j / d) = d := by
    rw [h.dd]
    refine det_congr _ _ _ fun r s hr hs => ?_
    unfold setC
    rw [if_neg (by omega)]
    show A (if r < k then r else i) (if s < k then c s else j) = _
    rw [if_pos hr, if_pos hs]
  rw [e2]
  unfold setC
  rw [if_pos rfl]
  show M i j = 0 * det (k + 1) B + (if k < k then 0 else M i j / d) * d
  rw [if_neg (by omega)]
  grind
/-- the numbers of the rows with a pivot are determinants -/
theorem Red.high {n w : Nat} {A M : Nat → Nat → Rat} {k : Nat} {c : Nat → Nat} {d : Rat} (h : Red n w A M k c d) {i j : Nat} (hi : i < k) (hj : j < w) :
    M i j = det k fun r s => A r (if s = i then j else c s) := by
  have hd := h.dn
  have key : ∀ r, r < k → A r j = sumN (fun t => (M t j / d) * A r (c t)) k + 0 := by
    intro r hr
    have e1 : sumN (fun t => (M t j / d) * A r (c t)) k = d⁻¹ * sumN (fun t => A r (c t) * M t j) k := by
      rw [← sumN_mul]
      exact sumN_congr _ fun t ht => by grind
    rw [e1]
    have := h.up r j hr hj
    grind
  let B : Nat → Nat → Rat := fun r s => A r (c s)
  have hB : det k (fun r s => A r (if s = i then j else c s)) = det k (setC B i fun r => sumN (fun l => (M l j / d) * B r l) k + 0) := by
    refine det_congr _ _ _ fun r s hr hs => ?_
    unfold setC
    by_cases hsi : s = i
    · rw [if_pos hsi, if_pos hsi, key r hr]
    · rw [if_neg hsi, if_neg hsi]
  rw [hB, det_comb k B i hi (fun l => M l j / d) (fun _ => 0) k (by omega), if_pos hi, det_zeroC k B i hi, show det k B = d from h.dd.symm]
  grind
/-- one more pivot -/
def elimM (M : Nat → Nat → Rat) (k cc : Nat) (d : Rat) : Nat → Nat → Rat := fun i j => if i = k then M k j else (M i j * M k cc - M i cc * M k j) / d
def addC (c : Nat → Nat) (k cc : Nat) : Nat → Nat := fun t => if t < k then c t else cc
theorem Red.step {n w : Nat} {A M : Nat → Nat → Rat} {k : Nat} {c : Nat → Nat} {d : Rat} (h : Red n w A M k c d) {cc : Nat} (hk : k < n) (hc : cc < w) (hp : M k cc ≠ 0) :
    Red n w A (elimM M k cc d) (k + 1) (addC c k cc) (M k cc) := by
  have hd := h.dn
  have hs : ∀ i j, sumN (fun t => A i (addC c k cc t) * elimM M k cc d t j) (k + 1) =
      (M k cc / d) * sumN (fun t => A i (c t) * M t j) k + (- (M k j / d)) * sumN (fun t => A i (c t) * M t cc) k + A i cc * M k j := by
    intro i j
    rw [sumN, ← sumN_lin]
    congr 1
    · refine sumN_congr _ fun t ht => ?_
      unfold addC elimM
      rw [if_pos ht, if_neg (by omega)]
      grind
    · unfold addC elimM
      rw [if_neg (by omega), if_pos rfl]
  refine ⟨hp, ?_, ?_, ?_, ?_, ?_, by omega⟩
  · have := h.low (i := k) (j := cc) (Nat.le_refl _) hk hc
    rw [this]
    refine det_congr _ _ _ fun r s hr hs => ?_
    unfold addC
    by_cases hrk : r < k
    · rw [if_pos hrk]
    · rw [if_neg hrk, show r = k by omega]
  · intro t i ht hi
    unfold addC elimM
    by_cases htk : t < k
    · rw [if_pos htk, h.pv t i htk hi, h.pv t k htk hk, if_neg (show k ≠ t by omega)]
      by_cases hik : i = k
      · rw [if_pos hik, if_neg (by omega)]
      · rw [if_neg hik]
        by_cases hit : i = t
        · rw [if_pos hit, if_pos hit]; grind
        · rw [if_neg hit, if_neg hit]; grind
    · rw [if_neg htk]
      obtain rfl : t = k := by omega
      by_cases hik : i = t
      · rw [if_pos hik, if_pos hik]
      · rw [if_neg hik, if_neg hik]; grind
  · intro i j hi hj
    rw [hs]
    by_cases hik : i < k
    · rw [← h.up i j hik hj, ← h.up i cc hik hc]
      grind
    · obtain rfl : i = k := by omega
      have h1 := h.lo i j (Nat.le_refl _) hk hj
      have h2 := h.lo i cc (Nat.le_refl _) hk hc
      generalize sumN (fun t => A i (c t) * M t j) i = s1 at *
      generalize sumN (fun t => A i (c t) * M t cc) i = s2 at *
      grind
  · intro i j hi hin hj
    rw [hs]
    have h1 := h.lo i j (by omega) hin hj
    have h2 := h.lo i cc (by omega) hin hc
    unfold elimM
    rw [if_neg (by omega)]
    generalize sumN (fun t => A i (c t) * M t j) k = s1 at *
    generalize sumN (fun t => A i (c t) * M t cc) k = s2 at *
    grind
  · intro t ht
    unfold addC
    by_cases htk : t < k
    · rw [if_pos htk]; exact h.cw t htk
    · rw [if_neg htk]; exact hc
/-- two rows without a pivot change places -/
theorem Red.swap {n w : Nat} {A M : Nat → Nat → Rat} {k : Nat} {c : Nat → Nat} {d : Rat} (h : Red n w A M k c d) {i2 : Nat} (hk : k ≤ i2) (hn : i2 < n) :
    Red n w (swpR A k i2) (swpR M k i2) k c d := by
  have lt : ∀ (B : Nat → Nat → Rat) i j, i < k → swpR B k i2 i j = B i j := fun B i j hi => by
    unfold swpR
    rw [if_neg (by omega), if_neg (by omega)]
  have hs : ∀ B : Nat → Rat, ∀ j, sumN (fun t => B t * swpR M k i2 t j) k = sumN (fun t => B t * M t j) k := fun B j => sumN_congr _ fun t ht => by rw [lt M t j ht]
  refine ⟨h.dn, ?_, ?_, ?_, ?_, h.cw, h.kn⟩
  · rw [h.dd]
    exact det_congr _ _ _ fun r s hr hs => (lt A r _ hr).symm
  · intro t i ht hi
    unfold swpR
    by_cases h1 : i = k
    · rw [if_pos h1, h.pv t i2 ht hn, if_neg (by omega), if_neg (by omega)]
    · rw [if_neg h1]
      by_cases h2 : i = i2
      · rw [if_pos h2, h.pv t k ht (by omega), if_neg (by omega), if_neg (by omega)]
      · rw [if_neg h2, h.pv t i ht hi]
  · intro i j hi hj
    rw [hs, lt A i j hi, h.up i j hi hj]
    exact sumN_congr _ fun t ht => by rw [lt A i _ hi]
  · intro i j hi hin hj
    rw [hs]
    unfold swpR
    by_cases h1 : i = k
    · rw [if_pos h1]; exact h.lo i2 j hk hn hj
    · rw [if_neg h1]
      by_cases h2 : i = i2
      · rw [if_pos h2]; exact h.lo k j (Nat.le_refl _) (by omega) hj
      · rw [if_neg h2]; exact h.lo i j hi hin hj
/-! ### whole numbers -/
def sumZ (f : Nat → Int) : Nat → Int
  | 0 => 0
  | n + 1 => sumZ f n + f n
def sgnZ (k : Nat) : Int := if k % 2 = 0 then 1 else -1
def detZ : Nat → (Nat → Nat → Int) → Int
  | 0, _ => 1
  | n + 1, A => sumZ (fun k => sgnZ k * A 0 k * detZ n (fun i j => A (i + 1) (skip k j))) (n + 1)
theorem sumZ_cast (f : Nat → Int) : ∀ n, ((sumZ f n : Int) : Rat) = sumN (fun i => (f i : Rat)) n
  | 0 => rfl
  | n + 1 => by rw [sumZ, sumN, Rat.intCast_add, sumZ_cast f n]
theorem detZ_cast : ∀ (n : Nat) (A : Nat → Nat → Int), ((detZ n A : Int) : Rat) = det n fun i j => (A i j : Rat)
  | 0, _ => rfl
  | n + 1, A => by
    rw [detZ, det, sumZ_cast]
    refine sumN_congr _ fun k hk => ?_
    rw [Rat.intCast_mul, Rat.intCast_mul, detZ_cast n]
    have : ((sgnZ k : Int) : Rat) = sgnN k := by
      unfold sgnZ sgnN
      split <;> rfl
    rw [this]
    rfl
theorem sumZ_le {f : Nat → Int} {x : Nat} : ∀ n, (∀ i, i < n → (f i).natAbs ≤ x) → (sumZ f n).natAbs ≤ n * x
  | 0, _ => by simp [sumZ]
  | n + 1, h => by
    rw [sumZ, Nat.succ_mul]
    have h1 := sumZ_le n fun i hi => h i (by omega)
    have h2 := h n (by omega)
    omega
theorem detZ_le (x : Nat) : ∀ (n : Nat) (A : Nat → Nat → Int), (∀ i j, i < n → (A i j).natAbs ≤ x) → (detZ n A).natAbs ≤ (n * x) ^ n
  | 0, _, _ => by show (1 : Int).natAbs ≤ _; rw [Nat.pow_zero]; decide
  | n + 1, A, h => by
    rw [detZ]
    have : ∀ k, k < n + 1 → (sgnZ k * A 0 k * detZ n (fun i j => A (i + 1) (skip k j))).natAbs ≤ x * (n * x) ^ n := by
      intro k hk
      rw [Int.natAbs_mul, Int.natAbs_mul]
      have h1 : (sgnZ k).natAbs = 1 := by unfold sgnZ; split <;> rfl
      rw [h1, Nat.one_mul]
      exact Nat.mul_le_mul (h 0 k (by omega)) (detZ_le x n _ fun i j hi => h _ _ (by omega))
    refine Nat.le_trans (sumZ_le _ this) ?_
    rw [Nat.pow_succ, ← Nat.mul_assoc, Nat.mul_comm]
    exact Nat.mul_le_mul (Nat.pow_le_pow_left (Nat.mul_le_mul (by omega) (Nat.le_refl _)) _) (Nat.le_refl _)
/-- the elimination of a matrix of whole numbers stays whole, and its numbers stay small -/
theorem Red.int {n w : Nat} {A : Nat → Nat → Int} {M : Nat → Nat → Rat} {k : Nat} {c : Nat → Nat} {d : Rat} {x : Nat} (h : Red n w (fun i j => (A i j : Rat)) M k c d) (hA : ∀ i j, i < n → (A i j).natAbs ≤ x) {i j : Nat} (hi : i < n) (hj : j < w) (hx : 1 ≤ n * x) :
    ∃ z : Int, M i j = (z : Rat) ∧ z.natAbs ≤ (n * x) ^ n := by
  have up : ∀ m, m ≤ n → (m * x) ^ m ≤ (n * x) ^ n := fun m hm =>
    Nat.le_trans (Nat.pow_le_pow_left (Nat.mul_le_mul hm (Nat.le_refl _)) _) (Nat.pow_le_pow_right hx hm)
  by_cases hik : i < k
  · refine ⟨detZ k fun r s => A r (if s = i then j else c s), ?_, ?_⟩
    · rw [h.high hik hj, detZ_cast]
    · exact Nat.le_trans (detZ_le x k _ fun r s hr => hA _ _ (by have := h.kn; omega)) (up k h.kn)
  · refine ⟨detZ (k + 1) fun r s => A (if r < k then r else i) (if s < k then c s else j), ?_, ?_⟩
    · rw [h.low (by omega) hi hj, detZ_cast]
    · exact Nat.le_trans (detZ_le x (k + 1) _ fun r s hr => hA _ _ (by split <;> omega)) (up (k + 1) (by omega))
theorem Red.intD {n w : Nat} {A : Nat → Nat → Int} {M : Nat → Nat → Rat} {k : Nat} {c : Nat → Nat} {d : Rat} {x : Nat} (h : Red n w (fun i j => (A i j : Rat)) M k c d) (hA : ∀ i j, i < n → (A i j).natAbs ≤ x) (hx : 1 ≤ n * x) :
    ∃ z : Int, d = (z : Rat) ∧ z.natAbs ≤ (n * x) ^ n := by
  refine ⟨detZ k fun r s => A r (c s), ?_, ?_⟩
  · rw [h.dd, detZ_cast]
  · exact Nat.le_trans (detZ_le x k _ fun r s hr => hA _ _ (by have := h.kn; omega)) (Nat.le_trans (Nat.pow_le_pow_left (Nat.mul_le_mul h.kn (Nat.le_refl _)) _) (Nat.pow_le_pow_right hx h.kn))

/-! ### solutions -/
def rowX (w : Nat) (M : Nat → Nat → Rat) (x : Nat → Rat) (i : Nat) : Rat := sumN (fun j => M i j * x j) w
def SolX (n w : Nat) (M : Nat → Nat → Rat) (x : Nat → Rat) : Prop := ∀ i, i < n → rowX w M x i = 0
theorem SolX.elim {n w : Nat} {M : Nat → Nat → Rat} {k cc : Nat} {d : Rat} (hd : d ≠ 0) (hk : k < n) (hp : M k cc ≠ 0) (x : Nat → Rat) : SolX n w (elimM M k cc d) x ↔ SolX n w M x := by
  have key : ∀ i, i ≠ k → rowX w (elimM M k cc d) x i = (M k cc / d) * rowX w M x i + (- (M i cc / d)) * rowX w M x k := by
    intro i hi
    unfold rowX
    rw [← sumN_lin]
    refine sumN_congr _ fun j hj => ?_
    unfold elimM
    rw [if_neg hi]
    grind
  have kk : rowX w (elimM M k cc d) x k = rowX w M x k := by
    unfold rowX
    refine sumN_congr _ fun j hj => ?_
    unfold elimM
    rw [if_pos rfl]
  constructor
  · intro h i hi
    have h0 := h k hk
    rw [kk] at h0
    by_cases hik : i = k
    · subst hik; exact h0
    · have h1 := h i hi
      rw [key i hik, h0] at h1
      grind
  · intro h i hi
    by_cases hik : i = k
    · subst hik; rw [kk]; exact h i hi
    · rw [key i hik, h i hi, h k hk]; grind
theorem SolX.swap {n w : Nat} {M : Nat → Nat → Rat} {k i2 : Nat} (hk : k < n) (hi2 : i2 < n) (x : Nat → Rat) : SolX n w (swpR M k i2) x ↔ SolX n w M x := by
  have key : ∀ i, rowX w (swpR M k i2) x i = rowX w M x (if i = k then i2 else if i = i2 then k else i) := fun i => rfl
  constructor
  · intro h i hi
    have := h (if i = k then i2 else if i = i2 then k else i) (by (repeat' split) <;> omega)
    rw [key] at this
    rw [← this]
    congr 1
    grind
  · intro h i hi
    rw [key]
    exact h _ (by (repeat' split) <;> omega)
/-! ### the whole elimination -/
structure RedI (n w : Nat) (A0 M : Nat → Nat → Rat) (k : Nat) (c : Nat → Nat) (d : Rat) (neg : Bool) (cur : Nat) : Prop where
  ex : ∃ p : Nat → Nat, (∀ i, i < n → p i < n) ∧ Red n w (fun i j => A0 (p i) j) M k c d ∧ det n (fun i j => A0 (p i) j) = (if neg = true then -1 else 1) * det n A0
  sol : ∀ x, SolX n w M x ↔ SolX n w A0 x
  inc : ∀ s t, s < t → t < k → c s < c t
  lt : ∀ t, t < k → c t < cur
  zero : ∀ j, j < cur → (∀ t, t < k → c t ≠ j) → ∀ i, k ≤ i → i < n → M i j = 0
theorem RedI.start (n w : Nat) (A : Nat → Nat → Rat) (c : Nat → Nat) : RedI n w A A 0 c 1 false 0 :=
  ⟨⟨id, fun i h => h, Red.start n w A c, by simp only [id]; grind⟩, fun x => Iff.rfl, fun s t _ h => by omega, fun t h => by omega, fun j h => by omega⟩
theorem RedI.kn {n w : Nat} {A0 M : Nat → Nat → Rat} {k : Nat} {c : Nat → Nat} {d : Rat} {neg : Bool} {cur : Nat} (h : RedI n w A0 M k c d neg cur) : k ≤ n := by
  obtain ⟨p, _, h2, _⟩ := h.ex
  exact h2.kn
theorem RedI.dn {n w : Nat} {A0 M : Nat → Nat → Rat} {k : Nat} {c : Nat → Nat} {d : Rat} {neg : Bool} {cur : Nat} (h : RedI n w A0 M k c d neg cur) : d ≠ 0 := by
  obtain ⟨p, _, h2, _⟩ := h.ex
  exact h2.dn
theorem RedI.skip {n w : Nat} {A0 M : Nat → Nat → Rat} {k : Nat} {c : Nat → Nat} {d : Rat} {neg : Bool} {cur : Nat} (h : RedI n w A0 M k c d neg cur) (hz : ∀ i, k ≤ i → i < n → M i cur = 0) : RedI n w A0 M k c d neg (cur + 1) :=
  ⟨h.ex, h.sol, h.inc, fun t ht => by have := h.lt t ht; omega, fun j hj hn i h1 h2 => by
    by_cases hjc : j = cur
    · subst hjc; exact hz i h1 h2
    · exact h.zero j (by omega) hn i h1 h2⟩
theorem RedI.swap {n w : Nat} {A0 M : Nat → Nat → Rat} {k : Nat} {c : Nat → Nat} {d : Rat} {neg : Bool} {cur : Nat} (h : RedI n w A0 M k c d neg cur) {i2 : Nat} (hk : k < i2) (hn : i2 < n) : RedI n w A0 (swpR M k i2) k c d (!neg) cur := by
  obtain ⟨p, h1, h2, h3⟩ := h.ex
  refine ⟨⟨fun i => p (if i = k then i2 else if i = i2 then k else i), fun i hi => h1 _ (by (repeat' split) <;> omega), h2.swap (by omega) hn, ?_⟩, fun x => (SolX.swap (by omega) hn x).trans (h.sol x), h.inc, h.lt, fun j hj hnp i a b => ?_⟩
  · have := det_swpR n (fun i j => A0 (p i) j) hk hn
    rw [show (fun i j => A0 (p (if i = k then i2 else if i = i2 then k else i)) j) = swpR (fun i j => A0 (p i) j) k i2 from rfl, this, h3]
    cases neg
    · show - ((if false = true then (-1 : Rat) else 1) * det n A0) = (if true = true then (-1 : Rat) else 1) * det n A0
      rw [if_neg (by decide), if_pos rfl]; grind
    · show - ((if true = true then (-1 : Rat) else 1) * det n A0) = (if false = true then (-1 : Rat) else 1) * det n A0
      rw [if_pos rfl, if_neg (by decide)]; grind
  · unfold swpR
    exact h.zero j hj hnp _ (by (repeat' split) <;> omega) (by (repeat' split) <;> omega)
theorem RedI.elim {n w : Nat} {A0 M : Nat → Nat → Rat} {k : Nat} {c : Nat → Nat} {d : Rat} {neg : Bool} {cur : Nat} (h : RedI n w A0 M k c d neg cur) (hk : k < n) (hw : cur < w) (hp : M k cur ≠ 0) :
    RedI n w A0 (elimM M k cur d) (k + 1) (addC c k cur) (M k cur) neg (cur + 1) := by
  obtain ⟨p, h1, h2, h3⟩ := h.ex
  refine ⟨⟨p, h1, h2.step hk hw hp, h3⟩, fun x => (SolX.elim h2.dn hk hp x).trans (h.sol x), fun s t hst ht => ?_, fun t ht => ?_, fun j hj hnp i a b => ?_⟩
  · unfold addC
    rw [if_pos (by omega)]
    by_cases htk : t < k
    · rw [if_pos htk]; exact h.inc s t hst htk
    · rw [if_neg htk]; exact h.lt s (by omega)
  · unfold addC
    split
    · rename_i q; have := h.lt t q; omega
    · omega
  · have hc := hnp k (by omega)
    unfold addC at hc
    rw [if_neg (by omega)] at hc
    have hz := h.zero j (by omega) (fun t ht => by
      have := hnp t (by omega)
      unfold addC at this
      rwa [if_pos ht] at this)
    unfold elimM
    rw [if_neg (by omega), hz i (by omega) b, hz k (by omega) hk]
    grind
/-- with a pivot in each column the pivots are the first columns -/
theorem inc_id {c : Nat → Nat} : ∀ {k : Nat}, (∀ s t, s < t → t < k → c s < c t) → ∀ t, t < k → t ≤ c t
  | 0, _, t, ht => by omega
  | k + 1, h, t, ht => by
    cases t with
    | zero => omega
    | succ t =>
      have h1 := inc_id h t (by omega)
      have h2 := h t (t + 1) (by omega) ht
      omega
theorem inc_full {c : Nat → Nat} {k : Nat} (h : ∀ s t, s < t → t < k → c s < c t) (hl : ∀ t, t < k → c t < k) : ∀ t, t < k → c t = t := by
  have key : ∀ m t, k - t = m → t < k → c t = t := by
    intro m
    induction m with
    | zero => intro t h1 h2; omega
    | succ m ih =>
      intro t h1 h2
      have a := inc_id h t h2
      by_cases ht : t + 1 < k
      · have b := ih (t + 1) (by omega) ht
        have := h t (t + 1) (by omega) ht
        omega
      · have := hl t h2
        omega
  exact fun t ht => key _ t rfl ht
theorem inc_free {c : Nat → Nat} {k m : Nat} (h : ∀ s t, s < t → t < k → c s < c t) (hk : k < m) : ∃ f, f < m ∧ ∀ t, t < k → c t ≠ f := by
  by_cases hh : ∃ t, t < k ∧ c t ≠ t ∧ ∀ s, s < t → c s = s
  · obtain ⟨t, h1, h2, h3⟩ := hh
    refine ⟨t, by omega, fun s hs e => ?_⟩
    by_cases hst : s < t
    · have := h3 s hst; omega
    · by_cases hst2 : s = t
      · subst hst2; exact h2 e
      · have a := h t s (by omega) hs
        have b := inc_id h t h1
        omega
  · refine ⟨k, hk, fun t ht e => ?_⟩
    have : ∀ s, s < k → c s = s := by
      intro s
      induction s using Nat.strongRecOn with
      | ind s ih =>
        intro hs
        refine Classical.byContradiction fun hne => hh ⟨s, hs, hne, fun r hr => ih r hr (by omega)⟩
    have := this t ht
    omega
/-- x solves the equations: the last column is their right side -/
def SolS (n m : Nat) (A : Nat → Nat → Rat) (x : Nat → Rat) : Prop := ∀ i, i < n → sumN (fun j => A i j * x j) m = A i m
theorem SolS.iff (n m : Nat) (A : Nat → Nat → Rat) (x : Nat → Rat) : SolS n m A x ↔ SolX n (m + 1) A fun j => if j < m then x j else -1 := by
  have key : ∀ i, rowX (m + 1) A (fun j => if j < m then x j else -1) i = sumN (fun j => A i j * x j) m - A i m := by
    intro i
    show sumN (fun j => A i j * (if j < m then x j else -1)) m + A i m * (if m < m then x m else -1) = _
    rw [if_neg (by omega), sumN_congr (g := fun j => A i j * x j) m fun j hj => by rw [if_pos hj]]
    grind
  constructor
  · intro h i hi
    rw [key, h i hi]; grind
  · intro h i hi
    have := h i hi
    rw [key] at this
    grind
theorem RedI.good {n m : Nat} {A0 M : Nat → Nat → Rat} {c : Nat → Nat} {d : Rat} {neg : Bool} {cur : Nat} (h : RedI n (m + 1) A0 M m c d neg cur) (hcur : cur ≤ m) (hr : ∀ i, m ≤ i → i < n → M i m = 0) (x : Nat → Rat) :
    SolS n m A0 x ↔ ∀ t, t < m → x t = M t m / d := by
  rw [SolS.iff, ← h.sol, ← SolS.iff]
  obtain ⟨p, h1, h2, h3⟩ := h.ex
  have hid := inc_full h.inc fun t ht => by have := h.lt t ht; omega
  have hd := h2.dn
  have hn := h2.kn
  have hrow : ∀ i, i < n → sumN (fun j => M i j * x j) m = if i < m then d * x i else 0 := by
    intro i hi
    by_cases him : i < m
    · rw [if_pos him, sumN_one m him fun j hj hji => ?_]
      · have := h2.pv i i him hi
        rw [hid i him, if_pos rfl] at this
        rw [this]
      · have := h2.pv j i hj hi
        rw [hid j hj, if_neg (fun e => hji e.symm)] at this
        rw [this]; grind
    · rw [if_neg him]
      refine sumN_zero m fun j hj => ?_
      have := h2.pv j i hj hi
      rw [hid j hj, if_neg (by omega)] at this
      rw [this]; grind
  constructor
  · intro hs t ht
    have := hs t (by omega)
    rw [hrow t (by omega), if_pos ht] at this
    grind
  · intro hs i hi
    rw [hrow i hi]
    by_cases him : i < m
    · rw [if_pos him, hs i him]; grind
    · rw [if_neg him, hr i (by omega) hi]
theorem RedI.none {n m : Nat} {A0 M : Nat → Nat → Rat} {k : Nat} {c : Nat → Nat} {d : Rat} {neg : Bool} {cur : Nat} (h : RedI n (m + 1) A0 M k c d neg cur) (hcur : cur = m ∨ k = n) {i : Nat} (hi : k ≤ i) (hin : i < n) (hne : M i m ≠ 0) (x : Nat → Rat) :
    ¬ SolS n m A0 x := by
  rw [SolS.iff, ← h.sol, ← SolS.iff]
  intro hs
  obtain ⟨p, h1, h2, h3⟩ := h.ex
  have := hs i hin
  rw [sumN_zero m fun j hj => ?_] at this
  · exact hne this.symm
  · have hz : M i j = 0 := by
      by_cases hp : ∃ t, t < k ∧ c t = j
      · obtain ⟨t, ht, rfl⟩ := hp
        have := h2.pv t i ht hin
        rwa [if_neg (by omega)] at this
      · exact h.zero j (by omega) (fun t ht e => hp ⟨t, ht, e⟩) i hi hin
    rw [hz]; grind
/-- fewer pivots than columns: a solution of the equations without a right side that is not zero -/
theorem RedI.many {n m w : Nat} {A0 M : Nat → Nat → Rat} {k : Nat} {c : Nat → Nat} {d : Rat} {neg : Bool} {cur : Nat} (h : RedI n w A0 M k c d neg cur) (hw : m ≤ w) (hm : ∀ t, t < k → c t < m) (hcur : cur = m ∨ k = n) (hk : k < m) :
    ∃ y : Nat → Rat, (∃ f, f < m ∧ y f ≠ 0) ∧ ∀ i, i < n → sumN (fun j => A0 i j * y j) m = 0 := by
  obtain ⟨p, h1, h2, h3⟩ := h.ex
  obtain ⟨f, hf, hff⟩ := inc_free h.inc hk
  let y : Nat → Rat := fun j => sumN (fun t => if j = c t then - M t f else 0) k + (if j = f then d else 0)
  have yf : y f = d := by
    show sumN _ k + _ = d
    rw [sumN_zero k fun t ht => if_neg (fun e => hff t ht e.symm), if_pos rfl]
    grind
  have hz : SolX n w M (fun j => if j < m then y j else 0) := by
    intro i hi
    unfold rowX
    have e1 : sumN (fun j => M i j * (if j < m then y j else 0)) w = sumN (fun j => sumN (fun t => if j = c t then M i j * (- M t f) else 0) k + (if j = f then M i j * d else 0)) w := by
      refine sumN_congr _ fun j hj => ?_
      by_cases hjm : j < m
      · rw [if_pos hjm]
        show M i j * (sumN _ k + _) = _
        rw [Rat.mul_add, ← sumN_mul]
        congr 1
        · refine sumN_congr _ fun t ht => ?_
          by_cases hjc : j = c t
          · rw [if_pos hjc, if_pos hjc]
          · rw [if_neg hjc, if_neg hjc]; grind
        · by_cases hjf : j = f
          · rw [if_pos hjf, if_pos hjf]
          · rw [if_neg hjf, if_neg hjf]; grind
      · rw [if_neg hjm, sumN_zero k fun t ht => if_neg (by have := hm t ht; omega), if_neg (by omega)]
        grind
    rw [e1]
    have e2 := sumN_lin (fun j => sumN (fun t => if j = c t then M i j * (- M t f) else 0) k) (fun j => if j = f then M i j * d else 0) 1 1 w
    rw [show (fun j => 1 * sumN (fun t => if j = c t then M i j * (- M t f) else 0) k + 1 * (if j = f then M i j * d else 0)) = fun j => sumN (fun t => if j = c t then M i j * (- M t f) else 0) k + (if j = f then M i j * d else 0) from funext fun j => by grind] at e2
    rw [e2, sumN_swap, sumN_one (c := f) w (by omega) fun j hj hjf => if_neg hjf, if_pos rfl]
    rw [sumN_congr (g := fun t => if i = t then d * (- M t f) else 0) k fun t ht => ?_]
    · by_cases hik : i < k
      · rw [sumN_one (c := i) k hik fun t ht hti => if_neg (fun e => hti e.symm), if_pos rfl]
        grind
      · rw [sumN_zero k fun t ht => if_neg (by omega), h.zero f (by rcases hcur with e | e <;> omega) hff i (by omega) hi]
        grind
    · rw [sumN_one (c := c t) w (by have := hm t ht; omega) fun j hj hjc => if_neg hjc, if_pos rfl, h2.pv t i ht hi]
      by_cases hit : i = t
      · rw [if_pos hit, if_pos hit]
      · rw [if_neg hit, if_neg hit]; grind
  refine ⟨y, ⟨f, hf, by rw [yf]; exact h2.dn⟩, fun i hi => ?_⟩
  have hs := (h.sol _).1 hz i hi
  unfold rowX at hs
  rw [← hs]
  have key : ∀ u, sumN (fun j => A0 i j * (if j < m then y j else 0)) (m + u) = sumN (fun j => A0 i j * y j) m := by
    intro u
    induction u with
    | zero => exact sumN_congr m fun j hj => by rw [if_pos hj]
    | succ u ih =>
      rw [← Nat.add_assoc, sumN, ih, if_neg (by omega)]
      grind
  have := key (w - m)
  rw [show m + (w - m) = w by omega] at this
  exact this.symm
/-- columns that depend on each other -/
theorem det_dep (n : Nat) (A : Nat → Nat → Rat) (y : Nat → Rat) {f : Nat} (hf : f < n) (hy : y f ≠ 0) (h : ∀ i, i < n → sumN (fun j => A i j * y j) n = 0) : det n A = 0 := by
  have h0 : det n (setC A f fun i => sumN (fun l => y l * A i l) n + 0) = 0 := by
    rw [det_congr n _ (setC A f fun _ => 0) fun i j hi hj => ?_]
    · exact det_zeroC n A f hf
    · unfold setC
      by_cases hjf : j = f
      · rw [if_pos hjf, if_pos hjf]
        show sumN (fun l => y l * A i l) n + 0 = 0
        rw [sumN_congr (g := fun j => A i j * y j) n fun l hl => Rat.mul_comm .., h i hi]
        grind
      · rw [if_neg hjf, if_neg hjf]
  rw [det_comb n A f hf y (fun _ => 0) n (Nat.le_refl _), if_pos hf, det_zeroC n A f hf] at h0
  grind
theorem RedI.det0 {n w : Nat} {A0 M : Nat → Nat → Rat} {k : Nat} {c : Nat → Nat} {d : Rat} {neg : Bool} {cur : Nat} (h : RedI n w A0 M k c d neg cur) (hw : n ≤ w) (hm : cur ≤ n) (hcur : cur = n ∨ k = n) (hk : k < n) : det n A0 = 0 := by
  obtain ⟨y, ⟨f, hf, hy⟩, hs⟩ := h.many (m := n) hw (fun t ht => by have := h.lt t ht; omega) hcur hk
  exact det_dep n A0 y hf hy hs
theorem RedI.det1 {n w : Nat} {A0 M : Nat → Nat → Rat} {c : Nat → Nat} {d : Rat} {neg : Bool} {cur : Nat} (h : RedI n w A0 M n c d neg cur) (hm : cur ≤ n) : det n A0 = if neg = true then - d else d := by
  obtain ⟨p, h1, h2, h3⟩ := h.ex
  have hid := inc_full h.inc fun t ht => by have := h.lt t ht; omega
  have hd : d = det n (fun i j => A0 (p i) j) := by
    rw [h2.dd]
    exact det_congr _ _ _ fun i j hi hj => by show A0 _ (c j) = _; rw [hid j hj]
  rw [← hd] at h3
  cases neg <;> simp at h3 ⊢ <;> grind
end Go.Proofs.YtnfmknjhkpgppaaGreatDoor
/- plain: the determinant and the systems of equations of the reference, as functions of lists -/
namespace Go.Proofs.YtnfmknjhkpgppaaGreatDoor
set_option linter.unusedVariables false

/-! ### the determinant and the systems of the reference, as functions of lists -/
def atL (m : List (List Rat)) (i j : Nat) : Rat := (m.getD i []).getD j 0
theorem erase_getD (l : List Rat) (k j : Nat) : (l.eraseIdx k).getD j 0 = l.getD (skip k j) 0 := by
  rw [List.getD_eq_getElem?_getD, List.getD_eq_getElem?_getD, List.getElem?_eraseIdx]
  unfold skip
  split <;> rfl
def minL (m : List (List Rat)) (k : Nat) : List (List Rat) := m.tail.map (·.eraseIdx k)
theorem minL_at (m : List (List Rat)) (k i j : Nat) : atL (minL m k) i j = minr (atL m) k i j := by
  show ((m.tail.map (·.eraseIdx k)).getD i []).getD j 0 = (m.getD (i + 1) []).getD (skip k j) 0
  rw [List.getD_eq_getElem?_getD (l := m.tail.map _), List.getD_eq_getElem?_getD (l := m), List.getElem?_map, List.getElem?_tail]
  cases h : m[i + 1]? with
  | none => rfl
  | some r => exact erase_getD r k j
/-- the sum over the first row, from the column k on -/
def lapG (f : Nat → Rat) : List Rat → Nat → Rat → Rat
  | [], _, a => a
  | x :: t, k, a => lapG f t (k + 1) (if x = 0 then a else a + sgnN k * (x * f k))
theorem lapG_eq (f : Nat → Rat) : ∀ (l : List Rat) (k : Nat) (a : Rat), lapG f l k a = a + sumN (fun j => sgnN (k + j) * (l.getD j 0 * f (k + j))) l.length
  | [], k, a => by show a = a + 0; grind
  | x :: t, k, a => by
    rw [lapG, lapG_eq f t]
    have : ∀ n, sumN (fun j => sgnN (k + j) * ((x :: t).getD j 0 * f (k + j))) (n + 1) = sgnN k * (x * f k) + sumN (fun j => sgnN (k + 1 + j) * (t.getD j 0 * f (k + 1 + j))) n := by
      intro n
      induction n with
      | zero => show 0 + sgnN (k + 0) * (x * f (k + 0)) = _ + 0; rw [Nat.add_zero]; grind
      | succ n ih =>
        rw [sumN, ih, sumN]
        show _ + sgnN (k + (n + 1)) * (t.getD n 0 * f (k + (n + 1))) = _
        rw [show k + (n + 1) = k + 1 + n by omega]
        grind
    rw [List.length_cons, this]
    split
    · rename_i h; subst h; grind
    · grind
def detL : Nat → List (List Rat) → Rat
  | 0, _ => 1
  | n + 1, m => lapG (fun k => detL n (minL m k)) (m.headD []) 0 0
structure Rect (m : List (List Rat)) (n k : Nat) : Prop where
  len : m.length = n
  wide : ∀ r ∈ m, r.length = k
theorem Rect.min {m : List (List Rat)} {n k j : Nat} (h : Rect m (n + 1) (k + 1)) (hj : j < k + 1) : Rect (minL m j) n k := by
  refine ⟨by unfold minL; rw [List.length_map, List.length_tail, h.len]; omega, fun r hr => ?_⟩
  unfold minL at hr
  obtain ⟨s, hs, rfl⟩ := List.mem_map.1 hr
  have := h.wide s (List.mem_of_mem_tail hs)
  rw [List.length_eraseIdx]
  split <;> omega
theorem detL_eq : ∀ (n : Nat) (m : List (List Rat)), Rect m n n → detL n m = det n (atL m)
  | 0, _, _ => rfl
  | n + 1, m, h => by
    cases m with
    | nil => have := h.len; simp at this
    | cons r t =>
      have hr := h.wide r (List.mem_cons_self ..)
      rw [detL, det, List.headD_cons, lapG_eq, hr]
      rw [sumN_congr (g := fun k => sgnN k * atL (r :: t) 0 k * det n (minr (atL (r :: t)) k)) (n + 1) fun j hj => ?_]
      · grind
      · rw [Nat.zero_add, detL_eq n _ (h.min hj), det_congr n (atL (minL (r :: t) j)) (minr (atL (r :: t)) j) fun i j' _ _ => minL_at _ _ _ _]
        show _ = sgnN j * r.getD j 0 * _
        grind
/-! ### systems: a row has n numbers and the right side -/
def SolL (n : Nat) (rows : List (List Rat)) (y : Nat → Rat) : Prop := ∀ r ∈ rows, sumN (fun j => r.getD j 0 * y j) n = r.getD n 0
theorem SolL.congr {n : Nat} {rows : List (List Rat)} {x y : Nat → Rat} (h : SolL n rows x) (he : ∀ j, j < n → x j = y j) : SolL n rows y := fun r hr => by
  rw [← h r hr]
  exact sumN_congr _ fun j hj => by rw [he j hj]
/-- a row less so many times another one, without the last unknown -/
def lessR (n : Nat) (a r : List Rat) : List Rat := (List.range n).map (fun k => r.getD k 0 - r.getD n 0 / a.getD n 0 * a.getD k 0) ++ [r.getD (n + 1) 0 - r.getD n 0 / a.getD n 0 * a.getD (n + 1) 0]
theorem lessR_lt {n k : Nat} (a r : List Rat) (h : k < n) : (lessR n a r).getD k 0 = r.getD k 0 - r.getD n 0 / a.getD n 0 * a.getD k 0 := by
  unfold lessR
  rw [List.getD_eq_getElem?_getD, List.getElem?_append_left (by simpa using h), List.getElem?_map, List.getElem?_range h]
  rfl
theorem lessR_end (n : Nat) (a r : List Rat) : (lessR n a r).getD n 0 = r.getD (n + 1) 0 - r.getD n 0 / a.getD n 0 * a.getD (n + 1) 0 := by
  unfold lessR
  rw [List.getD_eq_getElem?_getD, List.getElem?_append_right (by simp)]
  simp
/-- the first row that has the last unknown -/
def atS (n : Nat) (rows : List (List Rat)) : Option Nat := rows.findIdx? fun r => decide (r.getD n 0 ≠ 0)
def sysL : Nat → List (List Rat) → Option (List Rat)
  | 0, rows => if rows.any (fun r => decide (r.getD 0 0 ≠ 0)) = true then none else some []
  | n + 1, rows => match atS n rows with
    | none => none
    | some i => match sysL n ((rows.eraseIdx i).map (lessR n (rows.getD i []))) with
      | none => none
      | some x => some (x ++ [((rows.getD i []).getD (n + 1) 0 - sumN (fun k => (rows.getD i []).getD k 0 * x.getD k 0) n) / (rows.getD i []).getD n 0])
theorem sysL_len : ∀ (n : Nat) (rows : List (List Rat)) (x : List Rat), sysL n rows = some x → x.length = n
  | 0, rows, x, h => by
    rw [sysL] at h
    split at h
    · cases h
    · cases h; rfl
  | n + 1, rows, x, h => by
    rw [sysL] at h
    split at h
    · cases h
    · split at h
      · cases h
      · rename_i y hy
        cases h
        rw [List.length_append, sysL_len n _ y hy]; rfl
theorem mem_erase {rows : List (List Rat)} {i : Nat} {a : List Rat} (ha : rows[i]? = some a) (r : List Rat) : r ∈ rows ↔ r = a ∨ r ∈ rows.eraseIdx i := by
  rw [List.mem_eraseIdx_iff_getElem?]
  constructor
  · intro h
    obtain ⟨j, hj⟩ := List.mem_iff_getElem?.1 h
    by_cases e : j = i
    · subst e; rw [ha] at hj; cases hj; exact .inl rfl
    · exact .inr ⟨j, e, hj⟩
  · rintro (rfl | ⟨j, _, hj⟩)
    · exact List.mem_of_getElem? ha
    · exact List.mem_of_getElem? hj
theorem sol_step {n i : Nat} {rows : List (List Rat)} {a : List Rat} (ha : rows[i]? = some a) (h0 : a.getD n 0 ≠ 0) (y : Nat → Rat) :
    SolL (n + 1) rows y ↔ SolL n ((rows.eraseIdx i).map (lessR n a)) y ∧ y n = (a.getD (n + 1) 0 - sumN (fun k => a.getD k 0 * y k) n) / a.getD n 0 := by
  have hl : ∀ r : List Rat, sumN (fun j => (lessR n a r).getD j 0 * y j) n = 1 * sumN (fun j => r.getD j 0 * y j) n + (- (r.getD n 0 / a.getD n 0)) * sumN (fun k => a.getD k 0 * y k) n := by
    intro r
    rw [← sumN_lin]
    exact sumN_congr _ fun j hj => by rw [lessR_lt a r hj]; grind
  constructor
  · intro h
    have h1 := h a (List.mem_of_getElem? ha)
    rw [sumN] at h1
    have hy : y n = (a.getD (n + 1) 0 - sumN (fun k => a.getD k 0 * y k) n) / a.getD n 0 := by grind
    refine ⟨fun r hr => ?_, hy⟩
    obtain ⟨s, hs, rfl⟩ := List.mem_map.1 hr
    have h2 := h s ((mem_erase ha s).2 (.inr hs))
    rw [sumN] at h2
    rw [hl, lessR_end]
    grind
  · rintro ⟨h, hy⟩ r hr
    rw [sumN]
    rcases (mem_erase ha r).1 hr with rfl | hr
    · rw [hy]; grind
    · have h2 := h (lessR n a r) (List.mem_map.2 ⟨r, hr, rfl⟩)
      rw [hl, lessR_end] at h2
      rw [hy]
      grind
theorem atS_some {n i : Nat} {rows : List (List Rat)} (h : atS n rows = some i) : ∃ a, rows[i]? = some a ∧ rows.getD i [] = a ∧ a.getD n 0 ≠ 0 := by
  unfold atS at h
  rw [List.findIdx?_eq_some_iff_getElem] at h
  obtain ⟨h1, h2, _⟩ := h
  refine ⟨rows[i], List.getElem?_eq_getElem h1, ?_, by simpa using h2⟩
  rw [List.getD_eq_getElem?_getD, List.getElem?_eq_getElem h1]; rfl
theorem atS_none {n : Nat} {rows : List (List Rat)} (h : atS n rows = none) : ∀ r ∈ rows, r.getD n 0 = 0 := by
  unfold atS at h
  rw [List.findIdx?_eq_none_iff] at h
  intro r hr
  have := h r hr
  simpa using this
/-- the solution that the reference finds is the only one -/
theorem sysL_some : ∀ (n : Nat) (rows : List (List Rat)) (x : List Rat), sysL n rows = some x → ∀ y, SolL n rows y ↔ ∀ j, j < n → y j = x.getD j 0
  | 0, rows, x, h, y => by
    rw [sysL] at h
    split at h
    · cases h
    · rename_i hn
      refine ⟨fun _ j hj => by omega, fun _ r hr => ?_⟩
      have : ¬ decide (r.getD 0 0 ≠ 0) = true := fun e => hn (List.any_eq_true.2 ⟨r, hr, e⟩)
      simp only [decide_eq_true_eq, Classical.not_not] at this
      rw [this]; rfl
  | n + 1, rows, x, h, y => by
    rw [sysL] at h
    split at h
    · cases h
    · rename_i i hi
      obtain ⟨a, ha, hg, h0⟩ := atS_some hi
      rw [hg] at h
      split at h
      · cases h
      · rename_i z hz
        have hzl := sysL_len n _ z hz
        cases h
        have lt : ∀ (e : Rat) j, j < n → (z ++ [e]).getD j 0 = z.getD j 0 := fun e j hj => by
          rw [List.getD_eq_getElem?_getD, List.getD_eq_getElem?_getD, List.getElem?_append_left (by omega)]
        have le : ∀ e : Rat, (z ++ [e]).getD n 0 = e := fun e => by
          rw [List.getD_eq_getElem?_getD, List.getElem?_append_right (by omega), hzl]
          simp
        rw [sol_step ha h0, sysL_some n _ z hz y]
        constructor
        · rintro ⟨h1, h2⟩ j hj
          by_cases hjn : j = n
          · subst hjn
            rw [le, h2, sumN_congr (g := fun k => a.getD k 0 * z.getD k 0) j fun k hk => by rw [h1 k hk]]
          · rw [lt _ j (by omega), h1 j (by omega)]
        · intro h1
          refine ⟨fun j hj => by rw [h1 j (by omega), lt _ j hj], ?_⟩
          rw [h1 n (by omega), le, sumN_congr (f := fun k => a.getD k 0 * y k) (g := fun k => a.getD k 0 * z.getD k 0) n fun k hk => by rw [h1 k (by omega), lt _ k hk]]
/-- no solution, or several ones -/
theorem sysL_none : ∀ (n : Nat) (rows : List (List Rat)), sysL n rows = none → ∀ y, SolL n rows y → ∃ z, SolL n rows z ∧ ∃ j, j < n ∧ z j ≠ y j
  | 0, rows, h, y, hy => by
    exfalso
    rw [sysL] at h
    split at h
    · rename_i hn
      obtain ⟨r, hr, he⟩ := List.any_eq_true.1 hn
      have := hy r hr
      rw [sumN] at this
      simp only [decide_eq_true_eq] at he
      exact he this.symm
    · cases h
  | n + 1, rows, h, y, hy => by
    rw [sysL] at h
    split at h
    · rename_i hi
      have hz := atS_none hi
      refine ⟨fun j => if j = n then y n + 1 else y j, fun r hr => ?_, n, by omega, by show (if n = n then y n + 1 else y n) ≠ y n; rw [if_pos rfl]; grind⟩
      rw [← hy r hr, sumN, sumN, hz r hr, sumN_congr (g := fun j => r.getD j 0 * y j) n fun j hj => by show _ * (if j = n then y n + 1 else y j) = _; rw [if_neg (by omega)]]
      grind
    · rename_i i hi
      obtain ⟨a, ha, hg, h0⟩ := atS_some hi
      rw [hg] at h
      split at h
      · rename_i hz
        obtain ⟨h1, h2⟩ := (sol_step ha h0 y).1 hy
        obtain ⟨z, hz1, j, hj, hjn⟩ := sysL_none n _ hz y h1
        let e := (a.getD (n + 1) 0 - sumN (fun k => a.getD k 0 * z k) n) / a.getD n 0
        refine ⟨fun j => if j = n then e else z j, (sol_step ha h0 _).2 ⟨hz1.congr fun j hj => by rw [if_neg (by omega)], ?_⟩, j, by omega, by show (if j = n then e else z j) ≠ y j; rwa [if_neg (by omega)]⟩
        show (if n = n then e else z n) = _
        rw [if_pos rfl, sumN_congr (f := fun k => a.getD k 0 * (if k = n then e else z k)) (g := fun k => a.getD k 0 * z k) n fun k hk => by rw [if_neg (by omega)]]
      · cases h
end Go.Proofs.YtnfmknjhkpgppaaGreatDoor
/- a region that draws its order and ends with one store: the store is set behind the region -/
namespace Go.Proofs.YtnfmknjhkpgppaaGreatDoor
open Go
set_option linter.unusedVariables false

/-- the post that carries the last operation out -/
def LastQ (P : Program) (o : Oper) (Q : Exit → Act → World → Prop) : Exit → Act → World → Prop
  | .normal, a, w => o.wp P a w (fun a' w' => Q .normal a' w') Q
  | e, a, w => Q e a w
/-- the operation that stands for it -/
def stand (o : Oper) : Oper := { o with op := .move (.const (.bool false)) }
def setLast : List Oper → List Oper
  | [] => []
  | [o] => [stand o]
  | a :: b :: t => a :: setLast (b :: t)
theorem setLast_get : ∀ (l : List Oper) (i : Nat), i + 1 < l.length → (setLast l)[i]? = l[i]?
  | [], i, h => by simp at h
  | [o], i, h => by simp at h
  | a :: b :: t, 0, h => rfl
  | a :: b :: t, i + 1, h => by
    show (setLast (b :: t))[i]? = (b :: t)[i]?
    exact setLast_get (b :: t) i (by simpa using h)
theorem setLast_last : ∀ (l : List Oper) (o : Oper) (n : Nat), l[n]? = some o → n + 1 = l.length → (setLast l)[n]? = some (stand o)
  | [], o, n, h, h2 => by simp at h2
  | [a], o, 0, h, h2 => by simp at h; subst h; rfl
  | [a], o, n + 1, h, h2 => by simp at h2
  | a :: b :: t, o, 0, h, h2 => by simp at h2
  | a :: b :: t, o, n + 1, h, h2 => by
    show (setLast (b :: t))[n]? = _
    exact setLast_last (b :: t) o n (by simpa using h) (by simpa using h2)
theorem setLast_len : ∀ l : List Oper, (setLast l).length = l.length
  | [] => rfl
  | [o] => rfl
  | a :: b :: t => by show (setLast (b :: t)).length + 1 = _; rw [setLast_len (b :: t)]; rfl
theorem setLast_any (l : List Oper) (i : Nat) : (l[i]? = none ∧ (setLast l)[i]? = none) ∨ ∃ o o', l[i]? = some o ∧ (setLast l)[i]? = some o' ∧ o'.after = o.after ∧ o'.dst = o.dst ∧ o'.guard = o.guard := by
  rcases Nat.lt_or_ge i l.length with h | h
  · have e : l[i]? = some l[i] := List.getElem?_eq_getElem h
    rcases Nat.lt_or_ge (i + 1) l.length with h2 | h2
    · exact .inr ⟨_, _, e, (setLast_get l i h2).trans e, rfl, rfl, rfl⟩
    · exact .inr ⟨_, _, e, setLast_last l _ i e (by omega), rfl, rfl, rfl⟩
  · exact .inl ⟨List.getElem?_eq_none h, List.getElem?_eq_none (by rw [setLast_len]; exact h)⟩
theorem setLast_ready (l : List Oper) (md : Region.Mode) (listed : Array Bool) : Region.ready md (setLast l).toArray listed = Region.ready md l.toArray listed := by
  unfold Region.ready
  rw [List.size_toArray, List.size_toArray, setLast_len]
  congr 1
  funext i
  rw [List.getElem?_toArray, List.getElem?_toArray]
  rcases setLast_any l i with ⟨h1, h2⟩ | ⟨o, o', h1, h2, h3, _⟩
  · rw [h1, h2]
  · rw [h1, h2]; simp only [Option.map_some]; rw [h3]
theorem setLast_yielded (l : List Oper) (tmps : Array Value) : yielded (setLast l).toArray tmps = yielded l.toArray tmps := by
  funext g
  unfold yielded
  rw [List.getElem?_toArray, List.getElem?_toArray]
  rcases setLast_any l g with ⟨h1, h2⟩ | ⟨o, o', h1, h2, _, h3, _⟩
  · rw [h1, h2]
  · rw [h1, h2]; simp only [Option.bind_some]; rw [h3]
theorem lastQ_wp {P : Program} {o r : Oper} {Q : Exit → Act → World → Prop} {K : Act → World → Prop} {a : Act} {w : World} (h : r.wp P a w K (LastQ P o Q)) : r.wp P a w K Q := by
  unfold Oper.wp at *
  generalize (execOp a.eval r).run P w = x at *
  cases x with
  | ok n w' => cases n <;> exact h
  | halt y w' => cases y <;> exact h
/-- each operation waits for earlier ones alone -/
def backB (md : Region.Mode) (l : List Oper) : Bool := (List.range l.length).all fun j => match l[j]? with
  | some o => o.after.toList.all fun e => !Region.binds md e || decide (e.on < j)
  | none => true
theorem ready_ne {l : List Oper} {md : Region.Mode} {n : Nat} {listed : Array Bool} (hb : backB md l = true) (hn : n < l.length) (hl : listed.getD n true = false) (hs : listed.size = l.length) : Region.ready md l.toArray listed ≠ [] := by
  have key : ∀ n, n < l.length → listed.getD n true = false → ∃ j, j ∈ Region.ready md l.toArray listed := by
    intro n
    induction n using Nat.strongRecOn with
    | _ n ih =>
      intro hn hl
      by_cases hx : ∃ i, i < n ∧ listed.getD i true = false
      · obtain ⟨i, h1, h2⟩ := hx
        exact ih i h1 (by omega) h2
      · refine ⟨n, mem_ready.2 ⟨hl, l[n], by rw [List.getElem?_toArray]; exact List.getElem?_eq_getElem hn, fun e he hbd => ?_⟩⟩
        have h1 := List.all_eq_true.1 hb n (List.mem_range.2 hn)
        rw [List.getElem?_eq_getElem hn] at h1
        have h2 := List.all_eq_true.1 h1 e (by simpa using he)
        simp only [hbd, Bool.not_true, Bool.false_or, decide_eq_true_eq] at h2
        cases hg : listed.getD e.on true with
        | true =>
          have : e.on < listed.size := by omega
          simp [this] at hg ⊢
          exact hg
        | false => exact absurd ⟨e.on, h2, hg⟩ hx
  obtain ⟨j, hj⟩ := key n hn hl
  intro e
  rw [e] at hj
  cases hj
theorem wpAny_last {P : Program} {md : Region.Mode} {l : List Oper} {o : Oper} {n : Nat} {Q : Exit → Act → World → Prop} (hn : n + 1 = l.length) (ho : l[n]? = some o) (hs : Region.sinkB md l.toArray n = true) (hc : Region.chainB md l.toArray n = true) (hb : backB md l = true) (hg : o.guard = none) (hd : o.dst = none) :
    ∀ (fuel : Nat) (listed : Array Bool) (a : Act) (w : World), HeadInv md l.toArray n listed → wpAny P md (setLast l).toArray (LastQ P o Q) fuel listed a w → wpAny P md l.toArray Q fuel listed a w := by
  intro fuel
  induction fuel with
  | zero =>
    intro listed a w inv h
    have h1 := h.1
    rw [setLast_ready] at h1
    exact absurd h1 (ready_ne hb (show n < l.length by omega) (inv.tail n (Nat.le_refl _) (by rw [List.size_toArray]; omega)) (by rw [inv.size, List.size_toArray]))
  | succ fuel ih =>
    intro listed a w inv h
    obtain ⟨_, h1⟩ := h
    rw [setLast_ready] at h1
    refine ⟨fun e => absurd e (ready_ne hb (show n < l.length by omega) (inv.tail n (Nat.le_refl _) (by rw [List.size_toArray]; omega)) (by rw [inv.size, List.size_toArray])), fun i hi => ?_⟩
    have hw := h1 i hi
    obtain ⟨hil, oi, hoi, _⟩ := mem_ready.1 hi
    rw [List.getElem?_toArray] at hoi
    have hilt := (List.getElem?_eq_some_iff.1 hoi).1
    rcases Nat.lt_or_ge i n with hin | hin
    · have hop : (setLast l)[i]? = some oi := by rw [setLast_get l i (by omega)]; exact hoi
      unfold wpOp at hw ⊢
      rw [List.getElem?_toArray, hop] at hw
      rw [List.getElem?_toArray, hoi]
      simp only at hw ⊢
      rw [setLast_yielded] at hw
      split
      · rename_i hwd
      
        rw [if_pos hwd] at hw
        rcases hw with hw | ⟨hw, hl⟩
        · exact .inl (Oper.wp_mono (fun a w hk => ih _ a w (inv.set hi hin) hk) (lastQ_wp hw))
        · exact .inr ⟨hw, hl⟩
      · rename_i hwd
        rw [if_neg hwd] at hw
        exact ih _ _ w (inv.set hi hin) hw
    · have hie : i = n := by omega
      subst hie
      rw [ho] at hoi
      cases hoi
      have hall : ∀ j, j < i → listed.getD j true = true := fun j hj => by
        cases hx : listed.getD j true with
        | true => rfl
        | false => exact absurd hi (tail_waits hs hc (by rw [List.size_toArray]; omega) inv (i - j) j rfl hj hx i (Nat.le_refl _))
      have hnil : Region.ready md l.toArray (listed.setIfInBounds i true) = [] := by
        cases hr : Region.ready md l.toArray (listed.setIfInBounds i true) with
        | nil => rfl
        | cons j t =>
          have hj : j ∈ Region.ready md l.toArray (listed.setIfInBounds i true) := by rw [hr]; exact List.mem_cons_self ..
          obtain ⟨h3, oj, h4, _⟩ := mem_ready.1 hj
          rw [List.getElem?_toArray] at h4
          have hjl := (List.getElem?_eq_some_iff.1 h4).1
          by_cases hji : i = j
          · subst hji
            have : i < listed.size := by rw [inv.size, List.size_toArray]; omega
            simp [this] at h3
          · rw [getD_set_ne true hji, hall j (by omega)] at h3
            cases h3
      have hop := setLast_last l o i ho hn
      have hend : LastQ P o Q .normal a w := by
        unfold wpOp at hw
        rw [List.getElem?_toArray, hop] at hw
        have hgd : (stand o).guard = none := hg
        have hwt : Region.wanted (stand o) (yielded (setLast l).toArray a.tmps) = true := by unfold Region.wanted; rw [hgd]
        simp only [hwt, if_true] at hw
        have hput : a.put (stand o).dst (.bool false) = a := by
          have : (stand o).dst = none := hd
          rw [this]; rfl
        have fin : ∀ f, wpAny P md (setLast l).toArray (LastQ P o Q) f (listed.setIfInBounds i true) a w → LastQ P o Q .normal a w := fun f hf => by
          cases f with
          | zero => exact hf.2
          | succ f => exact hf.1 (by rw [setLast_ready]; exact hnil)
        rcases hw with hw | ⟨hw, _⟩
        · have : wpAny P md (setLast l).toArray (LastQ P o Q) fuel (listed.setIfInBounds i true) (a.put (stand o).dst (.bool false)) w := hw
          rw [hput] at this
          exact fin _ this
        · have h9 := hw.1
          exfalso
          revert h9
          show noRoomEvent ∈ #[] → False
          simp
      have hq : o.wp P a w (fun a' w' => Q .normal a' w') Q := hend
      unfold wpOp
      rw [List.getElem?_toArray, ho]
      have hwt : Region.wanted o (yielded l.toArray a.tmps) = true := by unfold Region.wanted; rw [hg]
      simp only [hwt, if_true]
      refine .inl (Oper.wp_mono (fun a' w' hk => ?_) hq)
      cases fuel with
      | zero => exact ⟨hnil, hk⟩
      | succ f => exact ⟨fun _ => hk, fun j hj => by rw [hnil] at hj; cases hj⟩
theorem wp_region_last {P : Program} {id : Nat} {l l' : List Oper} {o : Oper} {Q : Exit → Act → World → Prop} {S : World → Prop} {a : Act} {w : World} (n : Nat) (hm : P.follows .mixedOrders = true) (hl : setLast l = l') (hn : n + 1 = l.length) (ho : l[n]? = some o)
    (hs : Region.sinkB .any l.toArray n = true) (hc : Region.chainB .any l.toArray n = true) (hb : backB .any l = true) (hg : o.guard = none) (hd : o.dst = none) (hS : S w.drew)
    (h : S w.drew → wpAnyH P .any l'.toArray (LastQ P o Q) S l'.toArray.size (Array.replicate l'.toArray.size false) a w.drew) : (Code.region id l.toArray true).wp P Q a w := by
  have inv0 : HeadInv .any l.toArray n (Array.replicate l.toArray.size false) :=
    ⟨by simp, (fun j oj _ hl => by rw [getD_replicate_false] at hl; cases hl), fun t ht ht2 => getD_in (by simpa using ht2) (getD_replicate_false _ _)⟩
  refine wp_region_any hm (wpAny_last hn ho hs hc hb hg hd _ _ _ _ inv0 ?_)
  have h1 := wpAny_of_held _ _ _ _ (h hS)
  have e : l'.toArray.size = l.toArray.size := by rw [← hl, List.size_toArray, List.size_toArray, setLast_len]
  rw [e, ← hl] at h1
  exact h1
end Go.Proofs.YtnfmknjhkpgppaaGreatDoor
