/- texts merged: RgA RgC RgD RgE RgF RgG RgH -/
import Derived.Test.YtkfheeffbombhaaGreatDoorMtX
import Derived.Test.YtkfheeffbombhaaGreatDoorRtG
import Derived.Test.YtkfheeffbombhaaGreatDoorRtH
/- histories: pairs of ints; walks: regret.Check, historyError -/
namespace Go.Proofs.YtkfheeffbombhaaGreatDoor
open Go.RowKit
set_option linter.unusedVariables false

def PCells (w : World) (ao : Option Addr) (ps : List (Int × Int)) : Prop := ∀ (i : Nat) (p : Int × Int), ps[i]? = some p → ∃ b off, ao = some ⟨b, off, none⟩ ∧ w.cell? ⟨b, off + i * 2, none⟩ = some (.int .i64 p.1) ∧ w.cell? ⟨b, off + i * 2 + 1, none⟩ = some (.int .i64 p.2)
theorem PCells.ext {w w' : World} {ao : Option Addr} {ps : List (Int × Int)} (h : PCells w ao ps) (hx : Ext w w') : PCells w' ao ps := fun i p hp => by
  obtain ⟨b, off, e, c0, c1⟩ := h i p hp
  exact ⟨b, off, e, hx.cell c0, hx.cell c1⟩
/-- a slice value that reads as pairs -/
def Prs (w : World) (v : Value) (ps : List (Int × Int)) : Prop := ∃ ao c, v = .slice ao ps.length c ∧ ps.length ≤ 17592186044416 ∧ PCells w ao ps
theorem Prs.ext {w w' : World} {v : Value} {ps : List (Int × Int)} (h : Prs w v ps) (hx : Ext w w') : Prs w' v ps := by
  obtain ⟨ao, c, h1, h2, h3⟩ := h
  exact ⟨ao, c, h1, h2, h3.ext hx⟩
end Go.Proofs.YtkfheeffbombhaaGreatDoor
/- walks: regret.counts and its closure -/
namespace Go.Proofs.YtkfheeffbombhaaGreatDoor
open Go.RowKit
set_option linter.unusedVariables false

end Go.Proofs.YtkfheeffbombhaaGreatDoor
/- walk: regret.sums -/
namespace Go.Proofs.YtkfheeffbombhaaGreatDoor
open Go.RowKit
set_option linter.unusedVariables false

theorem ratOf_RBk {s : ByteArray} (k : Nat) (h : RatOk s) (hk : 2000 ≤ k) : RB k (ratOf s) := by
  obtain ⟨p1, p2⟩ := ratOf_parts h
  have hn : numB (numT s) < 10 ^ k := Nat.lt_of_lt_of_le (decF_lt (natB_iff.1 h.n1).1) (Nat.pow_le_pow_right (by omega) (by rw [bsz]; exact Nat.le_trans h.n2 hk))
  refine ⟨by rw [p1, sg_abs]; exact hn, ?_⟩
  rw [p2]
  unfold denN
  split
  · rename_i hd
    exact Nat.lt_of_lt_of_le (decF_lt (natB_iff.1 (h.d1 hd)).1) (Nat.pow_le_pow_right (by omega) (by rw [bsz]; exact Nat.le_trans (h.d2 hd) hk))
  · exact Nat.one_lt_pow (by omega) (by omega)
theorem ratOf_RB2k {s : ByteArray} (h : RatOk s) : RB 2000 (ratOf s) := ratOf_RBk 2000 h (Nat.le_refl _)
end Go.Proofs.YtkfheeffbombhaaGreatDoor
/- walks: regret.both, parts, best -/
namespace Go.Proofs.YtkfheeffbombhaaGreatDoor
open Go.RowKit
set_option linter.unusedVariables false

end Go.Proofs.YtkfheeffbombhaaGreatDoor
/- walk: regret.best -/
namespace Go.Proofs.YtkfheeffbombhaaGreatDoor
open Go.RowKit
set_option linter.unusedVariables false

end Go.Proofs.YtkfheeffbombhaaGreatDoor
/- plain: sums over rounds -/
namespace Go.Proofs.YtkfheeffbombhaaGreatDoor
set_option linter.unusedVariables false
end Go.Proofs.YtkfheeffbombhaaGreatDoor
/- walk: regret.Regrets -/
namespace Go.Proofs.YtkfheeffbombhaaGreatDoor
open Go.RowKit
set_option linter.unusedVariables false

theorem QsO.head {w : World} {B : Nat} {v : Value} {qs : List Rat} (h : QsO w B v qs) (hn : 0 < qs.length) : ∃ g cap, v = .slice (some ⟨g, 0, none⟩) qs.length cap ∧ B ≤ g ∧ g < w.heap.size := by
  obtain ⟨ts, h1, h2, h3, h4⟩ := h
  rcases h1.2 with ⟨_, e⟩ | ⟨g, cap, cur, rfl, hb, hg, _⟩
  · omega
  · exact ⟨g, cap, rfl, hb, (Array.getElem?_eq_some_iff.1 hg).1⟩
theorem QsO.cells {w : World} {B g n cap : Nat} {qs : List Rat} (h : QsO w B (.slice (some ⟨g, 0, none⟩) n cap) qs) (hl : qs.length ≤ 17592186044416) : QCells w (some ⟨g, 0, none⟩) qs := by
  obtain ⟨ao, c, e, _, hc⟩ := (h.toV hl).opn
  simp only [Value.slice.injEq] at e
  rw [e.1]
  exact hc
theorem Acc.kept {w w' : World} {O : Nat} {s : Bool} {xo : Option Addr} {xl xc : Nat} {yo : Option Addr} {yl yc : Nat} {q : Rat} {v : Value} {g : Nat} (h : Acc w O s xo xl xc yo yl yc q) (hc : Clean w v) (hv : v.ownBlock = some g) (hg : w.grownBy w' (some g)) (hne : O ≠ g) : Acc w' O s xo xl xc yo yl yc q :=
  ⟨own_kept h.row hg (.inl (by simp [Value.ownBlock]; exact hne)), hc.keptQ (by rw [hv]; exact hg) h.val⟩
end Go.Proofs.YtkfheeffbombhaaGreatDoor
