/- the words of a text and the cards: plain laws for CardsTexts -/
import Derived.Test.YtllhgkacbpgemaaDoorCardsF
namespace Go.Proofs.YtllhgkacbpgemaaDoor
open Go.RowKit
set_option linter.unusedVariables false

def atTo (w : ByteArray) : Nat → Int
  | 0 => -1
  | j + 1 => if cardT j = w then (j : Int) else atTo w j
def atF (w : ByteArray) : Int := atTo w 52

theorem readW_card : ∀ c : Fin 52, readW (cardT c.1) = some (c.1 : Int) := by decide +kernel
theorem cardT_bytes : ∀ (q : Fin 4) (r : Fin 13), cardT (13 * q.1 + r.1) = ⟨#[rkL[r.1]'(by have := r.2; simp [rkL]), stL[q.1]'(by have := q.2; simp [stL])]⟩ := by decide +kernel

theorem readW_some {w : ByteArray} {x : Int} (h : readW w = some x) : ∃ c : Nat, c < 52 ∧ x = c ∧ cardT c = w := by
  by_cases hz : w.size = 2
  · obtain ⟨b0, b1, rfl⟩ := two_bytes w hz
    have h2 : readB b0 b1 = some x := h
    unfold readB at h2
    split at h2
    · cases h2
    · rename_i hn
      obtain ⟨r1, r2⟩ := rk_bd b0
      obtain ⟨s1, s2⟩ := st_bd b1
      obtain ⟨r, hr⟩ := Int.eq_ofNat_of_zero_le (show 0 ≤ Lib.indexByte rkL b0 by omega)
      obtain ⟨q, hq⟩ := Int.eq_ofNat_of_zero_le (show 0 ≤ Lib.indexByte stL b1 by omega)
      rw [hr] at h2 r2
      rw [hq] at h2 s2
      have e1 := (Lib.indexByte_some hr).1
      have e2 := (Lib.indexByte_some hq).1
      have hc := cardT_bytes ⟨q, by omega⟩ ⟨r, by omega⟩
      obtain ⟨g1, g2⟩ := List.getElem?_eq_some_iff.1 e1
      obtain ⟨g3, g4⟩ := List.getElem?_eq_some_iff.1 e2
      refine ⟨13 * q + r, by omega, ?_, ?_⟩
      · have := Option.some.inj h2; omega
      · rw [hc]; simp only [g2, g4]
  · rw [readW_not w hz] at h; cases h

theorem atTo_spec (w : ByteArray) : ∀ j, (atTo w j = -1 ∧ ∀ c, c < j → cardT c ≠ w) ∨ ∃ c, c < j ∧ atTo w j = (c : Int) ∧ cardT c = w
  | 0 => .inl ⟨rfl, fun c h => by omega⟩
  | j + 1 => by
    unfold atTo
    by_cases h : cardT j = w
    · rw [if_pos h]; exact .inr ⟨j, by omega, rfl, h⟩
    · rw [if_neg h]
      rcases atTo_spec w j with ⟨h1, h2⟩ | ⟨c, h1, h2, h3⟩
      · refine .inl ⟨h1, fun c hc => ?_⟩
        by_cases e : c = j
        · subst e; exact h
        · exact h2 c (by omega)
      · exact .inr ⟨c, by omega, h2, h3⟩

theorem atTo_bd (w : ByteArray) (j : Nat) : -1 ≤ atTo w j ∧ atTo w j < j := by
  rcases atTo_spec w j with ⟨h1, _⟩ | ⟨c, h1, h2, _⟩
  · omega
  · omega

theorem atF_read (w : ByteArray) : (readW w = none ∧ atF w = -1) ∨ ∃ c : Nat, readW w = some (c : Int) ∧ atF w = c := by
  rcases atTo_spec w 52 with ⟨h1, h2⟩ | ⟨c, h1, h2, h3⟩
  · refine .inl ⟨?_, h1⟩
    cases hr : readW w with
    | none => rfl
    | some x =>
      obtain ⟨c, hc, _, he⟩ := readW_some hr
      exact absurd he (h2 c hc)
  · refine .inr ⟨c, ?_, h2⟩
    rw [← h3]
    exact readW_card ⟨c, h1⟩

theorem readL_at : ∀ ws : List ByteArray, (readL ws = some (ws.map atF) ∧ ∀ w ∈ ws, 0 ≤ atF w) ∨ (readL ws = none ∧ ∃ w ∈ ws, atF w = -1)
  | [] => .inl ⟨rfl, fun w h => by cases h⟩
  | w :: ws => by
    rcases atF_read w with ⟨h1, h2⟩ | ⟨c, h1, h2⟩
    · exact .inr ⟨by simp [readL, h1], w, by simp, h2⟩
    · rcases readL_at ws with ⟨h3, h4⟩ | ⟨h3, y, h4, h5⟩
      · refine .inl ⟨by simp [readL, h1, h3, h2], fun y hy => ?_⟩
        rcases List.mem_cons.1 hy with rfl | hy
        · omega
        · exact h4 y hy
      · exact .inr ⟨by simp [readL, h1, h3], y, by simp [h4], h5⟩

/-- what the words so far come to -/
def WantTo (ws : List ByteArray) (m : Int) : Prop := ((∀ w ∈ ws, 0 ≤ atF w) ∧ m = 0) ∨ ((∃ w ∈ ws, atF w = -1) ∧ m = 5)

theorem WantTo.nil : WantTo [] 0 := .inl ⟨(fun w h => by cases h), rfl⟩
theorem WantTo.good {ws : List ByteArray} {m : Int} {w : ByteArray} (h : WantTo ws m) (hw : 0 ≤ atF w) : WantTo (ws ++ [w]) m := by
  rcases h with ⟨h1, h2⟩ | ⟨⟨y, h1, h2⟩, h3⟩
  · refine .inl ⟨fun x hx => ?_, h2⟩
    rcases List.mem_append.1 hx with hx | hx
    · exact h1 x hx
    · simp at hx; subst hx; exact hw
  · exact .inr ⟨⟨y, by simp [h1], h2⟩, h3⟩
theorem WantTo.bad {ws : List ByteArray} {m : Int} {w : ByteArray} (h : WantTo ws m) (hw : atF w < 0) : WantTo (ws ++ [w]) 5 := by
  have := (atTo_bd w 52).1
  exact .inr ⟨⟨w, by simp, by unfold atF at *; omega⟩, rfl⟩
theorem WantTo.fin {ws : List ByteArray} {m : Int} (h : WantTo ws m) : (m = 0 ∧ readL ws = some (ws.map atF)) ∨ (m = 5 ∧ readL ws = none) := by
  rcases readL_at ws with ⟨h3, h4⟩ | ⟨h3, y, h4, h5⟩
  · rcases h with ⟨h1, h2⟩ | ⟨⟨x, h1, h2⟩, _⟩
    · exact .inl ⟨h2, h3⟩
    · have := h4 x h1; omega
  · rcases h with ⟨h1, h2⟩ | ⟨_, h2⟩
    · have := h1 y h4; omega
    · exact .inr ⟨h2, h3⟩
end Go.Proofs.YtllhgkacbpgemaaDoor
