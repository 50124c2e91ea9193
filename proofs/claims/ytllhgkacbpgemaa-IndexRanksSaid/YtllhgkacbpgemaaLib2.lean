/- rows of rows -/
import Derived.Test.YtllhgkacbpgemaaLib
namespace Go.Proofs.Ytllhgkacbpgemaa
open Go.RowKit

/-! ### rows of rows -/
theorem RowX.ext {r : Option Nat} {w w' : World} {v : Value} {vs : List Value} (h : RowX r w v vs) (he : Ext w w') : RowX r w' v vs := ⟨h.1.ext he, h.2⟩

/-- lies in a block from B on -/
def Fr (B : Nat) (v : Value) (vs : List Value) : Prop := vs = [] ∨ ∃ k, v.ownBlock = some k ∧ B ≤ k

theorem Fr.away {B : Nat} {v : Value} {vs : List Value} (h : Fr B v vs) {r : Option Nat} (hr : ∀ k, r = some k → k < B) : vs = [] ∨ v.ownBlock ≠ r := by
  rcases h with h | ⟨k, h1, h2⟩
  · exact .inl h
  · exact .inr fun e => by have := hr k (by rw [← e]; exact h1); omega

theorem Fr.mono {B B' : Nat} {v : Value} {vs : List Value} (h : Fr B v vs) (hB : B' ≤ B) : Fr B' v vs := h.imp id fun ⟨k, h1, h2⟩ => ⟨k, h1, Nat.le_trans hB h2⟩

/-- the values read as these rows, which lie from block B on and away from block r -/
structure RowsX (B : Nat) (r : Option Nat) (w : World) (us : List Value) (vss : List (List Value)) : Prop where
  len : us.length = vss.length
  row : ∀ (i : Nat) (u : Value) (vs : List Value), us[i]? = some u → vss[i]? = some vs → RowX r w u vs ∧ Fr B u vs

theorem RowsX.ext {B : Nat} {r : Option Nat} {w w' : World} {us : List Value} {vss : List (List Value)} (h : RowsX B r w us vss) (he : Ext w w') : RowsX B r w' us vss :=
  ⟨h.len, fun i u vs h1 h2 => ⟨(h.row i u vs h1 h2).1.ext he, (h.row i u vs h1 h2).2⟩⟩

theorem RowsX.grew {B : Nat} {w w' : World} {v v' : Value} {us : List Value} {vss : List (List Value)} (h : RowsX B v.ownBlock w us vss) (hg : Grew w v w' v') : RowsX B v'.ownBlock w' us vss :=
  ⟨h.len, fun i u vs h1 h2 => ⟨hg.row (h.row i u vs h1 h2).1, (h.row i u vs h1 h2).2⟩⟩

theorem RowsX.nil (B : Nat) (r : Option Nat) (w : World) : RowsX B r w [] [] := ⟨rfl, fun i u vs h _ => by simp at h⟩

theorem RowsX.snoc {B : Nat} {r : Option Nat} {w : World} {us : List Value} {vss : List (List Value)} (h : RowsX B r w us vss) {u : Value} {vs : List Value} (hu : RowX r w u vs) (hf : Fr B u vs) : RowsX B r w (us ++ [u]) (vss ++ [vs]) := by
  refine ⟨by simp [h.len], fun i x xs h1 h2 => ?_⟩
  by_cases hi : i < us.length
  · rw [List.getElem?_append_left hi] at h1
    rw [List.getElem?_append_left (by have := h.len; omega)] at h2
    exact h.row i x xs h1 h2
  · rw [List.getElem?_append_right (by omega)] at h1
    rw [List.getElem?_append_right (by have := h.len; omega), ← h.len] at h2
    have : i - us.length = 0 := by
      have := (List.getElem?_eq_some_iff.1 h1).1
      simp at this; exact this
    rw [this] at h1 h2
    simp at h1 h2
    subst h1; subst h2
    exact ⟨hu, hf⟩

theorem RowsX.away {B : Nat} {r r' : Option Nat} {w : World} {us : List Value} {vss : List (List Value)} (h : RowsX B r w us vss) (hr : ∀ k, r' = some k → k < B) : RowsX B r' w us vss :=
  ⟨h.len, fun i u vs h1 h2 => ⟨⟨(h.row i u vs h1 h2).1.1, (h.row i u vs h1 h2).2.away hr⟩, (h.row i u vs h1 h2).2⟩⟩

theorem RowsX.mono {B B' : Nat} {r : Option Nat} {w : World} {us : List Value} {vss : List (List Value)} (h : RowsX B r w us vss) (hB : B' ≤ B) : RowsX B' r w us vss :=
  ⟨h.len, fun i u vs h1 h2 => ⟨(h.row i u vs h1 h2).1, (h.row i u vs h1 h2).2.mono hB⟩⟩

theorem own_fr {w : World} {B : Nat} {e : TypeId} {sz : Nat} {v : Value} {n : Nat} {vs xs : List Value} (h : w.ownsRow B e sz v n xs) (hv : vs ≠ [] → 0 < n) : Fr B v vs := by
  by_cases hn : vs = []
  · exact .inl hn
  · obtain ⟨g, cap, rfl, hb, _⟩ := own_open h (hv hn)
    exact .inr ⟨g, rfl, hb⟩

theorem Row.at {w : World} {ao : Option Addr} {n c : Nat} {vs : List Value} (h : Row w (.slice ao n c) vs) {j : Nat} {p : Value} (hp : Hid (vs[j]? = some p)) : ∃ b off, ao = some ⟨b, off, none⟩ ∧ w.cell? ⟨b, off + j, none⟩ = some p := by
  obtain ⟨ao', c', h1, _, _, _, h2⟩ := h
  simp only [Value.slice.injEq] at h1
  obtain ⟨rfl, _, _⟩ := h1
  exact h2 j p hp.out

theorem own_lit1 (w : World) (y : Value) (e : TypeId) : (w.alloc (.cells #[y] e)).ownsRow w.heap.size e 1 (.slice (some ⟨w.heap.size, 0, none⟩) 1 1) 1 [y] :=
  World.ownsRow_lit w #[y] 1 (Nat.le_refl _) (by unfold maxLen; omega) rfl

/-- a slice of slices, for reading -/
def Rows {α : Type} (enc : α → Value) (w : World) (v : Value) (xss : List (List α)) : Prop :=
  ∃ us, Row w v us ∧ us.length = xss.length ∧ ∀ (i : Nat) (u : Value) (xs : List α), us[i]? = some u → xss[i]? = some xs → RowOf enc w u xs

theorem Rows.ext {α : Type} {enc : α → Value} {w w' : World} {v : Value} {xss : List (List α)} (h : Rows enc w v xss) (he : Ext w w') : Rows enc w' v xss := by
  obtain ⟨us, h1, h2, h3⟩ := h
  exact ⟨us, h1.ext he, h2, fun i u xs a b => (h3 i u xs a b).ext he⟩

end Go.Proofs.Ytllhgkacbpgemaa
