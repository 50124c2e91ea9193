/- walks of the package cards: Read -/
import Derived.Test.YtllhgkacbpgemaaDoorCards9
import Derived.Lib.ReplaceLaws
import Derived.Lib.SplitLaws
import Derived.Lib.IndexLaws
namespace Go.Proofs.YtllhgkacbpgemaaDoor
open Go.RowKit
set_option linter.unusedVariables false

def rkL : List UInt8 := [50, 51, 52, 53, 54, 55, 56, 57, 84, 74, 81, 75, 65]
def stL : List UInt8 := [67, 68, 72, 83]
/-- the card of a text of two bytes -/
def readB (b0 b1 : UInt8) : Option Int := if Lib.indexByte rkL b0 < 0 ∨ Lib.indexByte stL b1 < 0 then none else some (13 * Lib.indexByte stL b1 + Lib.indexByte rkL b0)
def readW (w : ByteArray) : Option Int := match w.data.toList with
  | [b0, b1] => readB b0 b1
  | _ => none
def readL : List ByteArray → Option (List Int)
  | [] => some []
  | w :: ws => match readW w with
    | none => none
    | some x => (readL ws).map (x :: ·)
/-- the words of a text -/
def splitT (s : ByteArray) : List ByteArray := Lib.splitB spaceT 0 (Lib.countB s spaceT) s
def readO (s : ByteArray) : Option (List Int) := if s.size = 0 then some [] else readL (splitT s)
def optErr : Option (List Int) → Int
  | none => 5
  | some l => deckErr l
def readErr (s : ByteArray) : Int := if 8192 < s.size then 2 else optErr (readO s)

theorem splitT_len (s : ByteArray) : (splitT s).length = Lib.countB s spaceT + 1 := Lib.splitB_all spaceT (by decide) 0 _ s rfl
theorem splitT_le (s : ByteArray) : (splitT s).length ≤ s.size + 1 := by
  rw [splitT_len]
  have := Lib.countB_le spaceT (by decide) s.size s (Nat.le_refl _)
  omega

theorem Ext.shaped {P : Program} {w w' : World} (hs : w.ShapedOpen P) (h : Ext w w') : w'.ShapedOpen P :=
  hs.keptBut (may := fun _ => False) (Below.frame h _) (fun p hp => hp.elim)

theorem split_any (s : ByteArray) (w : World) (h : w.ShapedOpen Tryd.prog) (hs : s.size ≤ 8192) :
    Calls Tryd.prog 25 #[.string s, .string spaceT] w fun e w' => ∃ u, e = .returned u ∧ Strs w' u (splitT s) ∧ Ext w w' := by
  refine (Tryd.strings_Split_shaped s spaceT w h (by omega) (by decide)).mono fun e w' hh => ?_
  obtain ⟨he, hw⟩ := hh
  refine ⟨_, he, ?_, by rw [hw]; exact (Ext.refl w).alloc _⟩
  have hl := splitT_le s
  have := World.ownsRow_lit (base := w.heap.size) (e := 9) (size := 1) w ((splitT s).map Value.string).toArray (splitT s).length (Nat.le_refl _) (by unfold maxLen; omega) (by simp)
  rw [hw]
  rw [splitT_len] at this
  exact own_rowOf this (by rw [← splitT_len]; omega)

theorem indexByte_any (s : ByteArray) (b : UInt8) (c : Int) (hc : c = b.toNat) (l : List UInt8) (hl : s.data.toList = l) (w : World) :
    Calls Tryd.prog 42 #[.string s, .int .u8 c] w fun e w' => e = .returned (.int .i64 (Lib.indexByte l b)) ∧ w' = w := by
  subst hc
  have e : ((b.toNat : Int)).toNat.toUInt8 = b := by rw [Int.toNat_natCast]; exact UInt8.ofNat_toNat
  have := Tryd.strings_IndexByte s (b.toNat : Int) w
  rw [hl, e] at this
  exact this

theorem readL_snoc (acc : List Int) (ws : List ByteArray) : True := trivial

theorem rk_bd (b : UInt8) : -1 ≤ Lib.indexByte rkL b ∧ Lib.indexByte rkL b ≤ 12 := by
  refine ⟨Lib.indexByte_ge _ _, ?_⟩
  by_cases h : Lib.indexByte rkL b = -1
  · omega
  · have h1 := Lib.indexByte_ge rkL b
    obtain ⟨o, ho⟩ := Int.eq_ofNat_of_zero_le (show 0 ≤ Lib.indexByte rkL b by omega)
    have := (List.getElem?_eq_some_iff.1 (Lib.indexByte_some ho).1).1
    simp [rkL] at this
    omega
theorem st_bd (b : UInt8) : -1 ≤ Lib.indexByte stL b ∧ Lib.indexByte stL b ≤ 3 := by
  refine ⟨Lib.indexByte_ge _ _, ?_⟩
  by_cases h : Lib.indexByte stL b = -1
  · omega
  · have h1 := Lib.indexByte_ge stL b
    obtain ⟨o, ho⟩ := Int.eq_ofNat_of_zero_le (show 0 ≤ Lib.indexByte stL b by omega)
    have := (List.getElem?_eq_some_iff.1 (Lib.indexByte_some ho).1).1
    simp [stL] at this
    omega

theorem two_bytes (w : ByteArray) (h : w.size = 2) : ∃ b0 b1, w = ⟨#[b0, b1]⟩ := by
  obtain ⟨⟨l⟩⟩ := w
  match l, h with
  | [a, b], _ => exact ⟨a, b, rfl⟩

theorem readW_not (w : ByteArray) (h : w.size ≠ 2) : readW w = none := by
  obtain ⟨⟨l⟩⟩ := w
  unfold readW
  split
  · rename_i b0 b1 e
    simp at e
    subst e
    exact absurd rfl h
  · rfl
end Go.Proofs.YtllhgkacbpgemaaDoor
