/- walks shared by the laws on cards: Check, DeckError, Fits, DrawsError, Fresh -/
import Derived.Test.YtllhgkacbpgemaaSlB
namespace Go.Proofs.Ytllhgkacbpgemaa
open Go.RowKit

/-! ### decks -/
def deckGo : List Int → List Int → Int
  | _, [] => 0
  | pre, x :: xs => if inB x 0 51 = false then 4 else if x ∈ pre then 7 else deckGo (pre ++ [x]) xs
/-- the error of a deck -/
def deckErr (xs : List Int) : Int := if 52 < xs.length then 2 else deckGo [] xs

theorem deckGo_zero : ∀ (xs pre : List Int), deckGo pre xs = 0 → (∀ x ∈ xs, 0 ≤ x ∧ x ≤ 51) ∧ xs.Nodup ∧ ∀ x ∈ xs, x ∉ pre := by
  intro xs
  induction xs with
  | nil => intro pre _; simp
  | cons x xs ih =>
    intro pre h
    simp only [deckGo] at h
    split at h
    · cases h
    · rename_i h1
      split at h
      · cases h
      · rename_i h2
        obtain ⟨h3, h4, h5⟩ := ih _ h
        simp only [inB, Bool.and_eq_false_iff, decide_eq_false_iff_not, not_or, Decidable.not_not] at h1
        refine ⟨fun y hy => ?_, List.nodup_cons.2 ⟨fun hm => h5 x hm (by simp), h4⟩, fun y hy => ?_⟩
        · rcases List.mem_cons.1 hy with rfl | hy
          · exact h1
          · exact h3 y hy
        · rcases List.mem_cons.1 hy with rfl | hy
          · exact h2
          · exact fun hm => h5 y hy (by simp [hm])

theorem deckErr_zero {xs : List Int} (h : deckErr xs = 0) : xs.length ≤ 52 ∧ (∀ x ∈ xs, 0 ≤ x ∧ x ≤ 51) ∧ xs.Nodup := by
  simp only [deckErr] at h
  split at h
  · cases h
  · obtain ⟨h1, h2, _⟩ := deckGo_zero xs [] h
    exact ⟨by omega, h1, h2⟩

/-- one step of the check, by cases -/
theorem deckGo_step {xs : List Int} {k : Nat} {x : Int} (h2 : Hid (xs.drop k = x :: xs.drop (k + 1))) (h3 : Hid (xs.take (k + 1) = xs.take k ++ [x])) (q : Int) (HI : Hid (deckGo (xs.take k) (xs.drop k) = q)) :
    (inB x 0 51 = false ∧ q = 4) ∨ (inB x 0 51 = true ∧ x ∈ xs.take k ∧ q = 7) ∨ (inB x 0 51 = true ∧ ¬ x ∈ xs.take k ∧ Hid (deckGo (xs.take (k + 1)) (xs.drop (k + 1)) = q)) := by
  have h := HI.out
  rw [h2.out, deckGo] at h
  by_cases h1 : inB x 0 51 = false
  · rw [if_pos h1] at h; exact .inl ⟨h1, h.symm⟩
  · rw [if_neg h1] at h
    have h1' : inB x 0 51 = true := by simpa using h1
    by_cases h4 : x ∈ xs.take k
    · rw [if_pos h4] at h; exact .inr (.inl ⟨h1', h4, h.symm⟩)
    · rw [if_neg h4] at h; exact .inr (.inr ⟨h1', h4, by rw [h3.out]; exact h⟩)

set_option maxHeartbeats 800000 in
set_option maxRecDepth 100000 in
theorem check_any (v : Value) (xs : List Int) (w : World) (hv : Ints w v xs) :
    Calls Try.prog 67 #[v] w fun e w' => e = .returned (.int .i64 (deckErr xs)) ∧ w = w' := by
  obtain ⟨ao, c, rfl, hlen, hlc, h0, hc⟩ := hv.open'
  clear hv
  by_cases hbig : 52 < xs.length
  · have hq : deckErr xs = 2 := by simp [deckErr, hbig]
    rw [hq]
    go_enter Try.func67, Try.ntmps67
    go_wp2_with fail
    go_ret
    exact ⟨rfl, rfl⟩
  · have hq : deckErr xs = deckGo [] xs := by simp [deckErr, hbig]
    rw [hq]
    have hsm : xs.length ≤ 52 := by omega
    clear hbig hq hlen
    obtain ⟨q, hq⟩ : ∃ q, Hid (deckGo [] xs = q) := ⟨_, rfl⟩
    rw [hq.out]
    have H0 := Lib.hid h0; clear h0
    go_enter Try.func67, Try.ntmps67
    go_wp2_with fail
    go_loop [10] (fun i => ∃ k : Nat, k ≤ xs.length ∧ i = .int .i64 k ∧ Hid (deckGo (xs.take k) (xs.drop k) = q)) (fun i => xs.length - (intOf i).toNat)
    case atStart => exact ⟨0, Nat.zero_le _, rfl, hq⟩
    case round =>
      obtain ⟨k, hk, rfl, HI⟩ := hrel
      by_cases hlt : k < xs.length
      · obtain ⟨x, h1, h2, h3⟩ := get_lt hlt
        obtain ⟨b, off, rfl, hcell⟩ := hc.at h1
        have hkc : k ≤ c := by omega
        have HT := Lib.hid (hc.take H0.out hlc (by omega) (show k ≤ xs.length by omega))
        have H5 := Lib.hid (fun q2 hq2 => contains_ints (.slice (some ⟨b, off, none⟩) k c) (xs.take k) x w HT.out q2 hq2)
        have hstep := deckGo_step h2 h3 q HI
        simp only [inB, Bool.and_eq_false_iff, decide_eq_false_iff_not, Bool.and_eq_true, decide_eq_true_eq] at hstep
        rcases hstep with ⟨h, rfl⟩ | ⟨h, hm, rfl⟩ | ⟨h, hm, HN⟩
        · by_cases hx0 : x < 0
          · go_wp2_with fail
            go_ret
            exact ⟨rfl, rfl⟩
          · have hx5 : 52 ≤ x := by omega
            go_wp2_with fail
            go_ret
            exact ⟨rfl, rfl⟩
        · have hx0 : 0 ≤ x := h.1
          have hx5 : x < 52 := by have := h.2; omega
          have HM := Lib.hid hm; clear hm h
          go_wp2_with fail
          refine (H5.out true (by simp [Hid, HM.out])).mono ?_
          rintro e w' ⟨rfl, rfl⟩
          go_wp2_with fail
          go_ret
          exact ⟨rfl, rfl⟩
        · have hx0 : 0 ≤ x := h.1
          have hx5 : x < 52 := by have := h.2; omega
          have HM := Lib.hid hm; clear hm h
          go_wp2_with fail
          refine (H5.out false (by simp [Hid, HM.out])).mono ?_
          rintro e w' ⟨rfl, rfl⟩
          go_wp2_with fail
          go_round
          case rel => exact ⟨k + 1, by omega, by go_num, HN⟩
          case measure => simp [intOf]; omega
      · obtain ⟨h1, _⟩ := get_ge hlt
        have hq0 : q = 0 := by rw [← HI.out, h1.out]; rfl
        subst hq0
        go_wp2_with fail
        go_ret
        exact ⟨rfl, rfl⟩

set_option maxHeartbeats 800000 in
set_option maxRecDepth 100000 in
theorem deckError_any (v : Value) (xs : List Int) (w : World) (hv : Ints w v xs) :
    Calls Try.prog 42 #[v] w fun e w' => e = .returned (.int .i64 (deckErr xs)) ∧ w = w' := by
  obtain ⟨ao, c, rfl, hlen, hlc, h0, hc⟩ := hv.open'
  clear hv
  by_cases hbig : 52 < xs.length
  · have hq : deckErr xs = 2 := by simp [deckErr, hbig]
    rw [hq]
    go_enter Try.func42, Try.ntmps42
    go_wp2_with fail
    go_ret
    exact ⟨rfl, rfl⟩
  · have hq : deckErr xs = deckGo [] xs := by simp [deckErr, hbig]
    rw [hq]
    have hsm : xs.length ≤ 52 := by omega
    clear hbig hq hlen
    obtain ⟨q, hq⟩ : ∃ q, Hid (deckGo [] xs = q) := ⟨_, rfl⟩
    rw [hq.out]
    have H0 := Lib.hid h0; clear h0
    go_enter Try.func42, Try.ntmps42
    go_wp2_with fail
    go_loop [10] (fun i => ∃ k : Nat, k ≤ xs.length ∧ i = .int .i64 k ∧ Hid (deckGo (xs.take k) (xs.drop k) = q)) (fun i => xs.length - (intOf i).toNat)
    case atStart => exact ⟨0, Nat.zero_le _, rfl, hq⟩
    case round =>
      obtain ⟨k, hk, rfl, HI⟩ := hrel
      by_cases hlt : k < xs.length
      · obtain ⟨x, h1, h2, h3⟩ := get_lt hlt
        obtain ⟨b, off, rfl, hcell⟩ := hc.at h1
        have hkc : k ≤ c := by omega
        have HT := Lib.hid (hc.take H0.out hlc (by omega) (show k ≤ xs.length by omega))
        obtain ⟨r, hr⟩ : ∃ r, Hid (idxI x (xs.take k) 0 = r) := ⟨_, rfl⟩
        have H5 := Lib.hid (place_ints (.slice (some ⟨b, off, none⟩) k c) (xs.take k) x w HT.out r hr)
        have H6 := idxI_ge x (xs.take k) 0 (Int.le_refl _)
        rw [hr.out] at H6
        have hstep := deckGo_step h2 h3 q HI
        rcases hstep with ⟨h, rfl⟩ | ⟨h, hm, rfl⟩ | ⟨h, hm, HN⟩
        · have H7 := Lib.hid (in_any x 0 51 false h w)
          clear H6
          go_wp2_with fail
          refine H7.out.mono ?_
          rintro e w' ⟨rfl, rfl⟩
          go_wp2_with fail
          go_ret
          exact ⟨rfl, rfl⟩
        · have H7 := Lib.hid (in_any x 0 51 true h w)
          have hr0 : 0 ≤ r := H6.2 hm
          clear H6 hm
          go_wp2_with fail
          refine H7.out.mono ?_
          rintro e w' ⟨rfl, rfl⟩
          go_wp2_with fail
          refine H5.out.mono ?_
          rintro e w' ⟨rfl, rfl⟩
          go_wp2_with fail
          go_ret
          exact ⟨rfl, rfl⟩
        · have H7 := Lib.hid (in_any x 0 51 true h w)
          have hr0 : r < 0 := by
            by_cases h9 : 0 ≤ r
            · exact absurd (H6.1 h9) hm
            · omega
          clear H6 hm
          go_wp2_with fail
          refine H7.out.mono ?_
          rintro e w' ⟨rfl, rfl⟩
          go_wp2_with fail
          refine H5.out.mono ?_
          rintro e w' ⟨rfl, rfl⟩
          go_wp2_with fail
          go_round
          case rel => exact ⟨k + 1, by omega, by go_num, HN⟩
          case measure => simp [intOf]; omega
      · obtain ⟨h1, _⟩ := get_ge hlt
        have hq0 : q = 0 := by rw [← HI.out, h1.out]; rfl
        subst hq0
        go_wp2_with fail
        go_ret
        exact ⟨rfl, rfl⟩

/-! ### draws -/
def fitsGo (n : Int) : Int → List Int → Int
  | _, [] => 0
  | j, x :: xs => if inB x 0 (n - j - 1) = false then 4 else fitsGo n (j + 1) xs
/-- the error of draws for n cards -/
def drawsErr (n : Int) (xs : List Int) : Int := if (xs.length : Int) = max n 1 - 1 then fitsGo n 0 xs else 3

theorem fitsGo_step {n : Int} {xs : List Int} {k : Nat} {x : Int} (h2 : Hid (xs.drop k = x :: xs.drop (k + 1))) (q : Int) (HI : Hid (fitsGo n k (xs.drop k) = q)) :
    (inB x 0 (n - k - 1) = false ∧ q = 4) ∨ (inB x 0 (n - k - 1) = true ∧ Hid (fitsGo n (k + 1 : Nat) (xs.drop (k + 1)) = q)) := by
  have h := HI.out
  rw [h2.out, fitsGo] at h
  by_cases h1 : inB x 0 (n - k - 1) = false
  · rw [if_pos h1] at h; exact .inl ⟨h1, h.symm⟩
  · rw [if_neg h1] at h
    exact .inr ⟨by simpa using h1, h⟩

theorem fitsGo_zero (n : Int) : ∀ (xs : List Int) (j : Int), fitsGo n j xs = 0 → ∀ (i : Nat) (x : Int), xs[i]? = some x → 0 ≤ x ∧ x ≤ n - (j + i) - 1 := by
  intro xs
  induction xs with
  | nil => intro j _ i x h; simp at h
  | cons y ys ih =>
    intro j h i x hx
    simp only [fitsGo] at h
    split at h
    · cases h
    · rename_i h1
      simp only [inB, Bool.and_eq_false_iff, decide_eq_false_iff_not, not_or, Decidable.not_not] at h1
      cases i with
      | zero => simp at hx; subst hx; simpa using h1
      | succ i =>
        have := ih (j + 1) h i x (by simpa using hx)
        push_cast
        omega

set_option maxHeartbeats 800000 in
set_option maxRecDepth 100000 in
theorem fits_any (n : Int) (v : Value) (xs : List Int) (w : World) (hv : Ints w v xs) (hn : -9223372036854775808 ≤ n ∧ n ≤ 9223372036854775807) :
    Calls Try.prog 61 #[.int .i64 n, v] w fun e w' => e = .returned (.int .i64 (drawsErr n xs)) ∧ w = w' := by
  obtain ⟨ao, c, rfl, hlen, hc⟩ := hv.open
  clear hv
  have hn1 := hn.1
  have hn2 := hn.2
  clear hn
  have hcs : n < 1 ∨ 1 ≤ n := by omega
  by_cases heq : (xs.length : Int) = max n 1 - 1
  · have hq : drawsErr n xs = fitsGo n 0 xs := by simp [drawsErr, heq]
    rw [hq]
    have hbb : n < 1 ∧ (((xs.length : Nat) : Int) != 0) = false ∧ Hid (xs.length = 0 ∨ (xs.length : Int) = n - 1) ∨ 1 ≤ n ∧ (((xs.length : Nat) : Int) != n - 1) = false ∧ Hid (xs.length = 0 ∨ (xs.length : Int) = n - 1) := by
      rcases hcs with h | h
      · exact .inl ⟨h, bne_eq_false_iff_eq.2 (by omega), .inl (by omega)⟩
      · exact .inr ⟨h, bne_eq_false_iff_eq.2 (by omega), .inr (by omega)⟩
    clear hq heq hcs
    obtain ⟨q, hq⟩ : ∃ q, Hid (fitsGo n 0 xs = q) := ⟨_, rfl⟩
    rw [hq.out]
    rcases hbb with ⟨hn0, hb, HS⟩ | ⟨hn0, hb, HS⟩
    all_goals
      go_enter Try.func61, Try.ntmps61
      go_wp2_with fail
      go_loop [15] (fun i => ∃ k : Nat, k ≤ xs.length ∧ i = .int .i64 k ∧ Hid (fitsGo n k (xs.drop k) = q)) (fun i => xs.length - (intOf i).toNat)
      case atStart => exact ⟨0, Nat.zero_le _, rfl, hq⟩
      case round =>
        obtain ⟨k, hk, rfl, HI⟩ := hrel
        by_cases hlt : k < xs.length
        · first
          | (exfalso; have := HS.out; omega)
          | (obtain ⟨x, h1, h2, h3⟩ := get_lt hlt
             obtain ⟨b, off, rfl, hcell⟩ := hc.at h1
             have hk1 : (k : Int) + 1 ≤ n - 1 := by have := HS.out; omega
             have hstep := fitsGo_step h2 q HI
             simp only [inB, Bool.and_eq_false_iff, decide_eq_false_iff_not, Bool.and_eq_true, decide_eq_true_eq] at hstep
             rcases hstep with ⟨h, rfl⟩ | ⟨h, HN⟩
             · by_cases hx0 : x < 0
               · go_wp2_with fail
                 go_ret
                 exact ⟨rfl, rfl⟩
               · have hx5 : n - 1 - k < x := by omega
                 clear h
                 go_wp2_with fail
                 go_ret
                 exact ⟨rfl, rfl⟩
             · have hx0 : 0 ≤ x := h.1
               have hx5 : x ≤ n - 1 - k := by have := h.2; omega
               clear h
               go_wp2_with fail
               go_round
               case rel => exact ⟨k + 1, by omega, by go_num, HN⟩
               case measure => simp [intOf]; omega)
        · obtain ⟨h1, _⟩ := get_ge hlt
          have hq0 : q = 0 := by rw [← HI.out, h1.out]; rfl
          subst hq0
          go_wp2_with fail
          go_ret
          exact ⟨rfl, rfl⟩
  · have hq : drawsErr n xs = 3 := by simp [drawsErr, heq]
    rw [hq]
    have hbb : n < 1 ∧ (((xs.length : Nat) : Int) != 0) = true ∨ 1 ≤ n ∧ (((xs.length : Nat) : Int) != n - 1) = true := by
      rcases hcs with h | h
      · exact .inl ⟨h, bne_iff_ne.2 (by omega)⟩
      · exact .inr ⟨h, bne_iff_ne.2 (by omega)⟩
    clear hq heq hcs
    rcases hbb with ⟨hn0, hb⟩ | ⟨hn0, hb⟩
    all_goals
      go_enter Try.func61, Try.ntmps61
      go_wp2_with fail
      go_ret
      exact ⟨rfl, rfl⟩

set_option maxHeartbeats 800000 in
set_option maxRecDepth 100000 in
theorem drawsError_any (n : Int) (v : Value) (xs : List Int) (w : World) (hv : Ints w v xs) (hn : -9223372036854775808 ≤ n ∧ n ≤ 9223372036854775807) :
    Calls Try.prog 28 #[.int .i64 n, v] w fun e w' => e = .returned (.int .i64 (drawsErr n xs)) ∧ w = w' := by
  obtain ⟨ao, c, rfl, hlen, hc⟩ := hv.open
  clear hv
  have hn1 := hn.1
  have hn2 := hn.2
  clear hn
  have hcs : n ≤ 1 ∨ 1 < n := by omega
  by_cases heq : (xs.length : Int) = max n 1 - 1
  · have hq : drawsErr n xs = fitsGo n 0 xs := by simp [drawsErr, heq]
    rw [hq]
    have hbb : n ≤ 1 ∧ (((xs.length : Nat) : Int) != 0) = false ∧ Hid (xs.length = 0 ∨ (xs.length : Int) = n - 1) ∨ 1 < n ∧ (((xs.length : Nat) : Int) != n - 1) = false ∧ Hid (xs.length = 0 ∨ (xs.length : Int) = n - 1) := by
      rcases hcs with h | h
      · exact .inl ⟨h, bne_eq_false_iff_eq.2 (by omega), .inl (by omega)⟩
      · exact .inr ⟨h, bne_eq_false_iff_eq.2 (by omega), .inr (by omega)⟩
    clear hq heq hcs
    obtain ⟨q, hq⟩ : ∃ q, Hid (fitsGo n 0 xs = q) := ⟨_, rfl⟩
    rw [hq.out]
    rcases hbb with ⟨hn0, hb, HS⟩ | ⟨hn0, hb, HS⟩
    all_goals
      go_enter Try.func28, Try.ntmps28
      go_wp2_with fail
      go_loop [27] (fun i => ∃ k : Nat, k ≤ xs.length ∧ i = .int .i64 k ∧ Hid (fitsGo n k (xs.drop k) = q)) (fun i => xs.length - (intOf i).toNat)
      case atStart => exact ⟨0, Nat.zero_le _, rfl, hq⟩
      case round =>
        obtain ⟨k, hk, rfl, HI⟩ := hrel
        by_cases hlt : k < xs.length
        · first
          | (exfalso; have := HS.out; omega)
          | (obtain ⟨x, h1, h2, h3⟩ := get_lt hlt
             obtain ⟨b, off, rfl, hcell⟩ := hc.at h1
             have hk1 : (k : Int) + 1 ≤ n - 1 := by have := HS.out; omega
             have hstep := fitsGo_step h2 q HI
             rcases hstep with ⟨h, rfl⟩ | ⟨h, HN⟩
             · have H7 := Lib.hid (in_any x 0 (n - k - 1) false h w)
               clear h
               go_wp2_with fail
               refine H7.out.mono ?_
               rintro e w' ⟨rfl, rfl⟩
               go_wp2_with fail
               go_ret
               exact ⟨rfl, rfl⟩
             · have H7 := Lib.hid (in_any x 0 (n - k - 1) true h w)
               clear h
               go_wp2_with fail
               refine H7.out.mono ?_
               rintro e w' ⟨rfl, rfl⟩
               go_wp2_with fail
               go_round
               case rel => exact ⟨k + 1, by omega, by go_num, HN⟩
               case measure => simp [intOf]; omega)
        · obtain ⟨h1, _⟩ := get_ge hlt
          have hq0 : q = 0 := by rw [← HI.out, h1.out]; rfl
          subst hq0
          go_wp2_with fail
          go_ret
          exact ⟨rfl, rfl⟩
  · have hq : drawsErr n xs = 3 := by simp [drawsErr, heq]
    rw [hq]
    have hbb : n ≤ 1 ∧ (((xs.length : Nat) : Int) != 0) = true ∨ 1 < n ∧ (((xs.length : Nat) : Int) != n - 1) = true := by
      rcases hcs with h | h
      · exact .inl ⟨h, bne_iff_ne.2 (by omega)⟩
      · exact .inr ⟨h, bne_iff_ne.2 (by omega)⟩
    clear hq heq hcs
    rcases hbb with ⟨hn0, hb⟩ | ⟨hn0, hb⟩
    all_goals
      go_enter Try.func28, Try.ntmps28
      go_wp2_with fail
      go_ret
      exact ⟨rfl, rfl⟩

theorem drawsErr_zero {n : Nat} {x : List Int} (h : drawsErr n x = 0) : x.length = n - 1 ∧ ∀ (j : Nat) (d : Int), x[j]? = some d → 0 ≤ d ∧ d < (n : Int) - j := by
  simp only [drawsErr] at h
  split at h
  · rename_i h1
    refine ⟨by omega, fun j d hd => ?_⟩
    have := fitsGo_zero n x 0 h j d hd
    omega
  · cases h

theorem drawsErr_zero2 {n : Nat} {x : List Int} (h : drawsErr n x = 0) : x.length = n - 1 ∧ ∀ (j : Nat) (d : Int), x[j]? = some d → 0 ≤ d ∧ d < (n : Int) - j := drawsErr_zero h

/-! ### fresh decks -/
/-- the first cards -/
def freshI (n : Nat) : List Int := (List.range n).map fun (k : Nat) => (k : Int)

theorem freshI_len (n : Nat) : (freshI n).length = n := by simp [freshI]
theorem freshI_succ (n : Nat) : freshI (n + 1) = freshI n ++ [(n : Int)] := by simp [freshI, List.range_succ]

set_option maxHeartbeats 400000 in
set_option maxRecDepth 100000 in
theorem fresh_err (n : Int) (w : World) (h : n < 0 ∨ 52 < n) :
    Calls Try.prog 79 #[.int .i64 n] w fun e w' => e = .returned (.tuple #[.slice none 0 0, .int .i64 4]) ∧ w = w' := by
  rcases h with h | h
  · go_enter Try.func79, Try.ntmps79
    go_wp2_with fail
    go_ret2
    exact ⟨rfl, rfl⟩
  · have h2 : 0 ≤ n := by omega
    go_enter Try.func79, Try.ntmps79
    go_wp2_with fail
    go_ret2
    exact ⟨rfl, rfl⟩

set_option maxHeartbeats 400000 in
set_option maxRecDepth 100000 in
theorem fresh_ok (n : Nat) (w : World) (h : n ≤ 52) :
    Calls Try.prog 79 #[.int .i64 n] w fun e w' => ∃ u, e = .returned (.tuple #[u, .int .i64 0]) ∧ w'.ownsRow w.heap.size 3 1 u n ((freshI n).map (Value.int .i64)) ∧ Ext w w' := by
  go_enter Try.func79, Try.ntmps79
  go_wp2_with fail
  go_loopw [4, 13] (fun u i wr => ∃ k : Nat, k ≤ n ∧ i = .int .i64 k ∧ Ext w wr ∧ wr.ownsRow w.heap.size 3 1 u k ((freshI k).map (Value.int .i64))) (fun _ i _ => n - (intOf i).toNat)
  case atStart => exact ⟨0, Nat.zero_le _, rfl, Ext.refl _, World.ownsRow_nil _ _ _ _⟩
  case round =>
    obtain ⟨k, hk, rfl, HX, HO⟩ := hrel
    have hsz := HX.size
    by_cases hlt : k < n
    · go_wp2_with (at_builtin; refine wp_app1 rfl rfl ei_ints HO rfl rfl rfl rfl (by omega) (by omega) (by omega) ?_; intro v' w' hown hgrew)
      go_roundw
      case rel => exact ⟨k + 1, by omega, by go_num, hgrew.extNew HX HO (Nat.le_refl _), by rw [freshI_succ, List.map_append]; exact hown⟩
      case measure => simp [intOf]; omega
    · have hkn : k = n := by omega
      subst hkn
      go_wp2_with fail
      go_ret2
      exact ⟨_, rfl, HO, HX⟩
end Go.Proofs.Ytllhgkacbpgemaa
