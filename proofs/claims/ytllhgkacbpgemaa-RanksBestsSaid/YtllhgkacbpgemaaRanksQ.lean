/- plain law: the package's class and value of a hand are the reference's -/
import Derived.Test.YtllhgkacbpgemaaRanksP1
import Derived.Test.YtllhgkacbpgemaaRanksP2
import Derived.Test.YtllhgkacbpgemaaRanksP3
import Derived.Test.YtllhgkacbpgemaaRanksP4
namespace Go.Proofs.Ytllhgkacbpgemaa
open Go.RowKit
set_option linter.unusedVariables false

theorem mem_rangeFrom {a b : Nat} (h1 : a ≤ b) (h2 : b < 13) : b ∈ rangeFrom a := by
  unfold rangeFrom
  exact List.mem_map.2 ⟨b - a, List.mem_range.2 (by omega), by omega⟩
theorem chk_all (a b : Nat) (h : a ≤ b) (hb : b < 13) : allChk a b = true := by
  have ha : a = 0 ∨ a = 1 ∨ a = 2 ∨ a = 3 ∨ a = 4 ∨ a = 5 ∨ a = 6 ∨ a = 7 ∨ a = 8 ∨ a = 9 ∨ a = 10 ∨ a = 11 ∨ a = 12 := by omega
  rcases ha with rfl | rfl | rfl | rfl | rfl | rfl | rfl | rfl | rfl | rfl | rfl | rfl | rfl
  · have hb2 : b = 0 ∨ b = 1 ∨ b = 2 ∨ b = 3 ∨ b = 4 ∨ b = 5 ∨ b = 6 ∨ b = 7 ∨ b = 8 ∨ b = 9 ∨ b = 10 ∨ b = 11 ∨ b = 12 := by omega
    rcases hb2 with rfl | rfl | rfl | rfl | rfl | rfl | rfl | rfl | rfl | rfl | rfl | rfl | rfl
    · exact chk_0_0
    · exact chk_0_1
    · exact chk_0_2
    · exact chk_0_3
    · exact chk_0_4
    · exact chk_0_5
    · exact chk_0_6
    · exact chk_0_7
    · exact chk_0_8
    · exact chk_0_9
    · exact chk_0_10
    · exact chk_0_11
    · exact chk_0_12
  · have hb2 : b = 1 ∨ b = 2 ∨ b = 3 ∨ b = 4 ∨ b = 5 ∨ b = 6 ∨ b = 7 ∨ b = 8 ∨ b = 9 ∨ b = 10 ∨ b = 11 ∨ b = 12 := by omega
    rcases hb2 with rfl | rfl | rfl | rfl | rfl | rfl | rfl | rfl | rfl | rfl | rfl | rfl
    · exact chk_1_1
    · exact chk_1_2
    · exact chk_1_3
    · exact chk_1_4
    · exact chk_1_5
    · exact chk_1_6
    · exact chk_1_7
    · exact chk_1_8
    · exact chk_1_9
    · exact chk_1_10
    · exact chk_1_11
    · exact chk_1_12
  · have hb2 : b = 2 ∨ b = 3 ∨ b = 4 ∨ b = 5 ∨ b = 6 ∨ b = 7 ∨ b = 8 ∨ b = 9 ∨ b = 10 ∨ b = 11 ∨ b = 12 := by omega
    rcases hb2 with rfl | rfl | rfl | rfl | rfl | rfl | rfl | rfl | rfl | rfl | rfl
    · exact chk_2_2
    · exact chk_2_3
    · exact chk_2_4
    · exact chk_2_5
    · exact chk_2_6
    · exact chk_2_7
    · exact chk_2_8
    · exact chk_2_9
    · exact chk_2_10
    · exact chk_2_11
    · exact chk_2_12
  · have hb2 : b = 3 ∨ b = 4 ∨ b = 5 ∨ b = 6 ∨ b = 7 ∨ b = 8 ∨ b = 9 ∨ b = 10 ∨ b = 11 ∨ b = 12 := by omega
    rcases hb2 with rfl | rfl | rfl | rfl | rfl | rfl | rfl | rfl | rfl | rfl
    · exact chk_3_3
    · exact chk_3_4
    · exact chk_3_5
    · exact chk_3_6
    · exact chk_3_7
    · exact chk_3_8
    · exact chk_3_9
    · exact chk_3_10
    · exact chk_3_11
    · exact chk_3_12
  · have hb2 : b = 4 ∨ b = 5 ∨ b = 6 ∨ b = 7 ∨ b = 8 ∨ b = 9 ∨ b = 10 ∨ b = 11 ∨ b = 12 := by omega
    rcases hb2 with rfl | rfl | rfl | rfl | rfl | rfl | rfl | rfl | rfl
    · exact chk_4_4
    · exact chk_4_5
    · exact chk_4_6
    · exact chk_4_7
    · exact chk_4_8
    · exact chk_4_9
    · exact chk_4_10
    · exact chk_4_11
    · exact chk_4_12
  · have hb2 : b = 5 ∨ b = 6 ∨ b = 7 ∨ b = 8 ∨ b = 9 ∨ b = 10 ∨ b = 11 ∨ b = 12 := by omega
    rcases hb2 with rfl | rfl | rfl | rfl | rfl | rfl | rfl | rfl
    · exact chk_5_5
    · exact chk_5_6
    · exact chk_5_7
    · exact chk_5_8
    · exact chk_5_9
    · exact chk_5_10
    · exact chk_5_11
    · exact chk_5_12
  · have hb2 : b = 6 ∨ b = 7 ∨ b = 8 ∨ b = 9 ∨ b = 10 ∨ b = 11 ∨ b = 12 := by omega
    rcases hb2 with rfl | rfl | rfl | rfl | rfl | rfl | rfl
    · exact chk_6_6
    · exact chk_6_7
    · exact chk_6_8
    · exact chk_6_9
    · exact chk_6_10
    · exact chk_6_11
    · exact chk_6_12
  · have hb2 : b = 7 ∨ b = 8 ∨ b = 9 ∨ b = 10 ∨ b = 11 ∨ b = 12 := by omega
    rcases hb2 with rfl | rfl | rfl | rfl | rfl | rfl
    · exact chk_7_7
    · exact chk_7_8
    · exact chk_7_9
    · exact chk_7_10
    · exact chk_7_11
    · exact chk_7_12
  · have hb2 : b = 8 ∨ b = 9 ∨ b = 10 ∨ b = 11 ∨ b = 12 := by omega
    rcases hb2 with rfl | rfl | rfl | rfl | rfl
    · exact chk_8_8
    · exact chk_8_9
    · exact chk_8_10
    · exact chk_8_11
    · exact chk_8_12
  · have hb2 : b = 9 ∨ b = 10 ∨ b = 11 ∨ b = 12 := by omega
    rcases hb2 with rfl | rfl | rfl | rfl
    · exact chk_9_9
    · exact chk_9_10
    · exact chk_9_11
    · exact chk_9_12
  · have hb2 : b = 10 ∨ b = 11 ∨ b = 12 := by omega
    rcases hb2 with rfl | rfl | rfl
    · exact chk_10_10
    · exact chk_10_11
    · exact chk_10_12
  · have hb2 : b = 11 ∨ b = 12 := by omega
    rcases hb2 with rfl | rfl
    · exact chk_11_11
    · exact chk_11_12
  · have hb2 : b = 12 := by omega
    subst hb2
    exact chk_12_12
theorem chk_of (a b c d e : Nat) (h1 : a ≤ b) (h2 : b ≤ c) (h3 : c ≤ d) (h4 : d ≤ e) (h5 : e < 13) (h6 : a ≠ e) : chk [a, b, c, d, e] = true := by
  have h := chk_all a b h1 (by omega)
  simp only [allChk, List.all_eq_true] at h
  have := h c (mem_rangeFrom h2 (by omega)) d (mem_rangeFrom h3 (by omega)) e (mem_rangeFrom h4 h5)
  have hb : (a == e) = false := by rw [beq_eq_false_iff_ne]; exact h6
  rwa [hb, Bool.false_or] at this

theorem code_split (r : Nat) : ∀ l : List Nat, ∃ s k, codeOf l = s + 8 ^ r * (l.count r + 8 * k) ∧ 8 * s ≤ l.length * 8 ^ r
  | [] => ⟨0, 0, by simp [codeOf], by simp⟩
  | a :: l => by
    obtain ⟨s, k, h1, h2⟩ := code_split r l
    have hl : (a :: l).length * 8 ^ r = l.length * 8 ^ r + 8 ^ r := by rw [List.length_cons, Nat.succ_mul]
    rcases Nat.lt_trichotomy a r with h | h | h
    · refine ⟨s + 8 ^ a, k, ?_, ?_⟩
      · rw [codeOf, h1, List.count_cons_of_ne (by omega)]; omega
      · have : 8 ^ (a + 1) ≤ 8 ^ r := Nat.pow_le_pow_right (by decide) h
        rw [Nat.pow_succ] at this
        rw [hl]; omega
    · subst h
      refine ⟨s, k, ?_, by rw [hl]; exact Nat.le_trans h2 (Nat.le_add_right _ _)⟩
      rw [codeOf, h1, List.count_cons_self, show List.count a l + 1 + 8 * k = (List.count a l + 8 * k) + 1 by omega, Nat.mul_succ]
      omega
    · refine ⟨s, k + 8 ^ (a - r - 1), ?_, by rw [hl]; exact Nat.le_trans h2 (Nat.le_add_right _ _)⟩
      have e : 8 ^ a = 8 ^ r * (8 * 8 ^ (a - r - 1)) := by
        rw [← Nat.pow_succ', ← Nat.pow_add]; congr 1; omega
      have e2 : List.count r l + 8 * (k + 8 ^ (a - r - 1)) = (List.count r l + 8 * k) + 8 * 8 ^ (a - r - 1) := by omega
      rw [codeOf, h1, List.count_cons_of_ne (by omega), e2, Nat.mul_add (8 ^ r) (List.count r l + 8 * k), e]
      generalize 8 ^ r * (List.count r l + 8 * k) = X
      generalize 8 ^ r * (8 * 8 ^ (a - r - 1)) = Y
      omega

theorem cOf_code (l : List Nat) (h : l.length ≤ 7) : cOf (codeOf l) = fun r => l.count r := by
  funext r
  obtain ⟨s, k, h1, h2⟩ := code_split r l
  have h3 : l.length * 8 ^ r ≤ 7 * 8 ^ r := Nat.mul_le_mul_right _ h
  have hp : 0 < 8 ^ r := Nat.pow_pos (by decide)
  have hs : s < 8 ^ r := by omega
  have hc : l.count r ≤ 7 := Nat.le_trans List.count_le_length h
  rw [cOf, h1, Nat.add_mul_div_left _ _ hp, Nat.div_eq_of_lt hs]
  omega

theorem pr_perm {l l' : List Nat} (h : l.Perm l') : pr l = pr l' := by
  induction h with
  | nil => rfl
  | cons a h ih => rw [pr, pr, h.count_eq a, ih]
  | swap a b l =>
    simp only [pr, List.count_cons]
    by_cases e : a = b
    · subst e; rfl
    · have e1 : (a == b) = false := by rw [beq_eq_false_iff_ne]; exact e
      have e2 : (b == a) = false := by rw [beq_eq_false_iff_ne]; exact fun h => e h.symm
      simp [e1, e2]; omega
  | trans _ _ ih1 ih2 => exact ih1.trans ih2

theorem prsTo_pr (f : Int → Int) (g : Int → Nat) (xs : List Int) (hfg : ∀ x ∈ xs, ∀ y ∈ xs, (f x = f y ↔ g x = g y)) : ∀ k, k ≤ xs.length → prsTo f xs k = pr ((xs.take k).reverse.map g)
  | 0, _ => by simp [prsTo, pr]
  | k + 1, hk => by
    obtain ⟨x, x1, _, x3⟩ := get_lt (xs := xs) (k := k) (by omega)
    have hx := List.mem_of_getElem? x1.out
    rw [prsTo_step x1, prsTo_pr f g xs hfg k (by omega), x3.out, List.reverse_append]
    simp only [List.reverse_cons, List.reverse_nil, List.nil_append, List.cons_append, List.map_cons, pr]
    rw [Nat.add_comm]
    congr 1
    rw [List.count_eq_countP, List.countP_map, List.countP_reverse]
    apply List.countP_congr
    intro y hy
    have hy2 := List.mem_of_mem_take hy
    have := hfg x hx y hy2
    simp only [Function.comp_apply, decide_eq_true_eq, beq_iff_eq]
    rw [this]
    exact eq_comm

theorem allTo_congr {c c' : Int → Nat} (h : ∀ r, 0 ≤ r → c r = c' r) (hh : Int) : ∀ k, allTo c hh k = allTo c' hh k
  | 0 => rfl
  | k + 1 => by
    rw [allTo, allTo, allTo_congr h hh k, h]
    unfold rnk; split <;> omega
theorem strD_congr {c c' : Int → Nat} (h : ∀ r, 0 ≤ r → c r = c' r) : ∀ n, strD c n = strD c' n
  | 0 => rfl
  | n + 1 => by rw [strD, strD, allTo_congr h, strD_congr h n]
theorem digRow_congr {c c' : Int → Nat} (h : ∀ r, 0 ≤ r → c r = c' r) (m : Nat) : ∀ n, digRow c m n = digRow c' m n
  | 0 => rfl
  | n + 1 => by rw [digRow, digRow, digRow_congr h m n, h _ (Int.natCast_nonneg n)]
theorem digAll_congr {c c' : Int → Nat} (h : ∀ r, 0 ≤ r → c r = c' r) : ∀ m, digAll c m = digAll c' m
  | 0 => rfl
  | m + 1 => by rw [digAll, digAll, digRow_congr h, digAll_congr h m]

/-- five different cards -/
structure HandOk (xs : List Int) : Prop where
  len : xs.length = 5
  rng : ∀ x ∈ xs, 0 ≤ x ∧ x ≤ 51
  nd : xs.Nodup

theorem handOk {xs : List Int} (h : handErr xs = 0) : HandOk xs := by
  rw [handErr] at h
  split at h
  · rename_i hd
    split at h
    · rename_i h5
      obtain ⟨_, h2, h3⟩ := deckErr_zero hd
      exact ⟨h5, h2, h3⟩
    · cases h
  · rename_i hd; exact absurd h hd

def rkN (x : Int) : Nat := (x % 13).toNat
def stN (x : Int) : Nat := (x / 13).toNat
theorem cntR_rk (xs : List Int) (r : Int) (hr : 0 ≤ r) : cntR xs r = (xs.map rkN).count r.toNat := by
  rw [cntR, List.count_eq_countP, List.countP_map]
  apply List.countP_congr
  intro x hx
  simp only [Function.comp_apply, decide_eq_true_eq, beq_iff_eq, rkN]
  omega

theorem pigeon : ∀ a b c d e : Fin 4, a = b ∨ a = c ∨ a = d ∨ a = e ∨ b = c ∨ b = d ∨ b = e ∨ c = d ∨ c = e ∨ d = e := by decide +kernel

theorem five {α : Type} {l : List α} (h : l.length = 5) : ∃ a b c d e, l = [a, b, c, d, e] := by
  match l, h with
  | [a, b, c, d, e], _ => exact ⟨a, b, c, d, e, rfl⟩

theorem card_eq {x y : Int} {r : Nat} (hx : 0 ≤ x ∧ x ≤ 51) (hy : 0 ≤ y ∧ y ≤ 51) (h1 : rkN x = r) (h2 : rkN y = r) (h3 : (x / 13).toNat = (y / 13).toNat) : x = y := by
  unfold rkN at h1 h2; omega
theorem suit_lt {x : Int} (hx : 0 ≤ x ∧ x ≤ 51) : (x / 13).toNat < 4 := by omega
theorem ranks_differ {xs : List Int} (h : HandOk xs) {r : Nat} (hr : ∀ x ∈ xs, rkN x = r) : False := by
  obtain ⟨a, b, c, d, e, rfl⟩ := five h.len
  have hn := h.nd
  have ha := h.rng a (by simp)
  have hb := h.rng b (by simp)
  have hc := h.rng c (by simp)
  have hd := h.rng d (by simp)
  have he := h.rng e (by simp)
  have ra := hr a (by simp)
  have rb := hr b (by simp)
  have rc := hr c (by simp)
  have rd := hr d (by simp)
  have re := hr e (by simp)
  have hp := pigeon ⟨(a / 13).toNat, suit_lt ha⟩ ⟨(b / 13).toNat, suit_lt hb⟩ ⟨(c / 13).toNat, suit_lt hc⟩ ⟨(d / 13).toNat, suit_lt hd⟩ ⟨(e / 13).toNat, suit_lt he⟩
  simp only [Fin.mk.injEq] at hp
  simp only [List.nodup_cons, List.mem_cons, List.not_mem_nil, or_false, not_or] at hn
  obtain ⟨⟨n1, n2, n3, n4⟩, ⟨n5, n6, n7⟩, ⟨n8, n9⟩, n10, _⟩ := hn
  rcases hp with h | h | h | h | h | h | h | h | h | h
  · exact n1 (card_eq ha hb ra rb h)
  · exact n2 (card_eq ha hc ra rc h)
  · exact n3 (card_eq ha hd ra rd h)
  · exact n4 (card_eq ha he ra re h)
  · exact n5 (card_eq hb hc rb rc h)
  · exact n6 (card_eq hb hd rb rd h)
  · exact n7 (card_eq hb he rb re h)
  · exact n8 (card_eq hc hd rc rd h)
  · exact n9 (card_eq hc he rc re h)
  · exact n10 (card_eq hd he rd re h)

theorem suits_ten (a b c d e : Nat) : pr [a, b, c, d, e] = 10 ↔ (b = a ∧ c = a ∧ d = a ∧ e = a) := by
  have h1 := List.count_le_length (a := a) (l := [b, c, d, e])
  have h2 := List.count_le_length (a := b) (l := [c, d, e])
  have h3 := List.count_le_length (a := c) (l := [d, e])
  have h4 := List.count_le_length (a := d) (l := [e])
  simp only [List.length_cons, List.length_nil] at h1 h2 h3 h4
  simp only [pr, List.count_nil]
  constructor
  · intro h
    have h5 : List.count a [b, c, d, e] = [b, c, d, e].length := by simp only [List.length_cons, List.length_nil]; omega
    have h6 := List.count_eq_length.1 h5
    simp only [List.mem_cons, List.not_mem_nil, or_false, forall_eq_or_imp, forall_eq] at h6
    omega
  · rintro ⟨rfl, rfl, rfl, rfl⟩
    simp

theorem pr_suits {xs : List Int} (h : HandOk xs) : (prsTo st13 xs xs.length = 10) ↔ flushF xs = true := by
  rw [prsTo_pr st13 stN xs (fun x hx y hy => by have := h.rng x hx; have := h.rng y hy; unfold st13 stN; omega) xs.length (Nat.le_refl _), List.take_length]
  obtain ⟨a, b, c, d, e, rfl⟩ := five h.len
  have ha := h.rng a (by simp)
  have hb := h.rng b (by simp)
  have hc := h.rng c (by simp)
  have hd := h.rng d (by simp)
  have he := h.rng e (by simp)
  rw [pr_perm ((List.reverse_perm _).map stN)]
  simp only [List.map_cons, List.map_nil]
  rw [suits_ten]
  have hf : flushF [a, b, c, d, e] = true ↔ (b / 13 = a / 13 ∧ c / 13 = a / 13 ∧ d / 13 = a / 13 ∧ e / 13 = a / 13) := by
    show (List.all [a, b, c, d, e] fun x => decide (x / 13 = a / 13)) = true ↔ _
    simp
  rw [hf]
  unfold stN
  omega

theorem clsR_flush (s : Int) (p u : Nat) (f : Bool) (h : u = 10 ↔ f = true) : clsR s p u = clsR s p (if f then 10 else 0) := by
  cases f with
  | true => rw [h.2 rfl]; rfl
  | false =>
    have : u ≠ 10 := fun e => by cases h.1 e
    simp [clsR, this]

/-- the ranks in order -/
theorem sorted_of (rs : List Nat) (h : rs.length = 5) : ∃ a b c d e, rs.Perm [a, b, c, d, e] ∧ a ≤ b ∧ b ≤ c ∧ c ≤ d ∧ d ≤ e := by
  have hp := List.mergeSort_perm rs (fun x y => decide (x ≤ y))
  have hs := List.pairwise_mergeSort (le := fun x y => decide (x ≤ y)) (fun a b c h1 h2 => by simp at *; omega) (fun a b => by simp; omega) rs
  have hl : (rs.mergeSort (fun x y => decide (x ≤ y))).length = 5 := by rw [hp.length_eq, h]
  obtain ⟨a, b, c, d, e, he⟩ := five hl
  rw [he] at hp hs
  simp only [List.pairwise_cons, List.mem_cons, List.not_mem_nil, or_false, forall_eq_or_imp, forall_eq, decide_eq_true_eq] at hs
  exact ⟨a, b, c, d, e, hp.symm, by omega, by omega, by omega, by omega⟩

theorem hand_law {xs : List Int} (h : HandOk xs) : GoodH xs ∧ GoodV xs ∧ classP xs = classR xs ∧ valueP xs = valueR xs := by
  obtain ⟨a, b, c, d, e, hp, h1, h2, h3, h4⟩ := sorted_of (xs.map rkN) (by simpa using h.len)
  have hlt : ∀ r ∈ xs.map rkN, r < 13 := by
    intro r hr
    obtain ⟨x, hx, rfl⟩ := List.mem_map.1 hr
    unfold rkN; omega
  have he : e < 13 := hlt e (hp.mem_iff.2 (by simp))
  have hae : a ≠ e := by
    rintro rfl
    refine ranks_differ h (r := a) fun x hx => ?_
    have := hp.mem_iff.1 (List.mem_map_of_mem (f := rkN) hx)
    simp only [List.mem_cons, List.not_mem_nil, or_false] at this
    omega
  have hk := chk_of a b c d e h1 h2 h3 h4 he hae
  obtain ⟨l, hl⟩ : ∃ l, [a, b, c, d, e] = l := ⟨_, rfl⟩
  have hll : l.length = 5 := by rw [← hl]; rfl
  rw [hl] at hk hp
  clear hl
  have hc : cOf (codeOf l) = cntN xs := by
    rw [cOf_code l (by omega)]
    funext r
    rw [cntN, cntR_rk xs _ (Int.natCast_nonneg r), Int.toNat_natCast, hp.count_eq]
  have hcI : ∀ r : Int, 0 ≤ r → cI (cntN xs) r = cntR xs r := by
    intro r hr
    rw [cI, cntN, Int.toNat_of_nonneg hr]
  have hpr : prsTo rk13 xs xs.length = pr l := by
    rw [prsTo_pr rk13 rkN xs (fun x hx y hy => by unfold rk13 rkN; omega) xs.length (Nat.le_refl _), List.take_length, pr_perm ((List.reverse_perm _).map rkN), pr_perm hp]
  have hfl := pr_suits h
  have hs : strD (cI (cntN xs)) 10 = strD (cntR xs) 10 := strD_congr hcI 10
  have hD : digs (cI (cntN xs)) (strD (cntR xs) 10) = digsR xs := by
    rw [digsR, digs, digs, digAll_congr hcI]
  simp only [chk, hc, hs, hD, Bool.and_eq_true, decide_eq_true_eq, List.all_eq_true] at hk
  obtain ⟨⟨⟨⟨⟨⟨k1, k2⟩, k3⟩, k4⟩, k5⟩, k6⟩, k7⟩ := hk
  have hcR : classR xs = clsR (strD (cntR xs) 10) (pr l) (if flushF xs then 10 else 0) := by
    rw [classR, hpr]; exact clsR_flush _ _ _ _ hfl
  have hB : chkB (ordL (cntN xs)) ((ordL (cntN xs)).map (cntN xs)) (strD (cntR xs) 10) (strP (ordL (cntN xs))) (pr l) (padF (digsR xs)) (flushF xs) = true := by
    cases hf : flushF xs
    · exact k7
    · exact k6
  simp only [chkB, Bool.and_eq_true, decide_eq_true_eq, List.all_eq_true] at hB
  obtain ⟨⟨⟨⟨⟨b1, b2⟩, b3⟩, b4⟩, b5⟩, b6⟩ := hB
  have hcP : classP xs = clsP (decide (0 ≤ strP (ordL (cntN xs)))) (flushF xs) (((ordL (cntN xs)).map (cntN xs)).getD 0 0) (((ordL (cntN xs)).map (cntN xs)).getD 1 0) := rfl
  rw [← hcP] at b1 b2 b3 b4 b5 b6
  have hcc : classP xs = classR xs := by rw [b1, hcR]
  have hlp : lpP xs = if classP xs = 8 ∨ classP xs = 4 then [strP (ordL (cntN xs))] else natI (ordL (cntN xs)) := rfl
  rw [← hlp] at b4 b5 b6
  have hol : (ordL (cntN xs)).length = (rankL (cntN xs) 13).length := by rw [ordL, isort_len]
  refine ⟨⟨k4, k5, by rw [← hcc]; exact b2, by rw [← hcc]; exact b3⟩, ⟨⟨by omega, by omega, ?_⟩, b5, b6, b2, b3⟩, hcc, ?_⟩
  · intro ho
    simp only [Bool.or_eq_true, Bool.not_eq_true', decide_eq_true_eq] at k3
    rcases k3 with k3 | k3
    · rcases ho with ho | ho <;> rw [ho] at k3 <;> cases k3
    · exact k3
  · rw [valueP, valueR, hcc, b4]
end Go.Proofs.Ytllhgkacbpgemaa
