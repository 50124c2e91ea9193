/- texts merged: TrY ShelfC TrZ TrAA TrAB TrAC TrAD TrAE TrAF TrAG TrAH TrAI MaxOf -/
import Derived.Test.YtkfheeffbombhaaGreatDoorTrQX
import Derived.Shelf.Strings.Builder1
import Derived.Shelf.LaysM
import Derived.Test.YtkfheeffbombhaaGreatDoorProg
import Derived.Deep.DeepMust
import Derived.OwnWalk
import Derived.Test.YtkfheeffbombhaaGreatDoorRtI
import Derived.Test.YtkfheeffbombhaaGreatDoorShelf
/- walks of package tree: line -/
namespace Go.Proofs.YtkfheeffbombhaaGreatDoor
open Go.RowKit
set_option linter.unusedVariables false

/-! ### the text of a node -/
end Go.Proofs.YtkfheeffbombhaaGreatDoor
/- the contract of strings.Builder's WriteString, over the kit's shelf: laid by hand, for the kit's tool does not find the type of 'interface {}' in their bodies -/
namespace Go.Proofs.YtkfheeffbombhaaGreatDoor
open Go.Shelf Go.RowKit

end Go.Proofs.YtkfheeffbombhaaGreatDoor
/- walks of package tree: Print -/
namespace Go.Proofs.YtkfheeffbombhaaGreatDoor
open Go.RowKit
set_option linter.unusedVariables false

/-! ### the text of a game -/
end Go.Proofs.YtkfheeffbombhaaGreatDoor
/- walks of package tree: number; strings.Clone -/
namespace Go.Proofs.YtkfheeffbombhaaGreatDoor
open Go.RowKit
set_option linter.unusedVariables false

end Go.Proofs.YtkfheeffbombhaaGreatDoor
/- walks of package tree: a result of six cells; read, at ends -/
namespace Go.Proofs.YtkfheeffbombhaaGreatDoor
open Go.RowKit
set_option linter.unusedVariables false

/-- the count of bytes that a machine's search takes at most: a variable of the library -/
def MaxIs (w : World) : Prop := ∃ m : Int, w.cell? ⟨0, 0, none⟩ = some (.int .i64 m)
theorem MaxIs.ext {w w' : World} (h : MaxIs w) (hx : Ext w w') : MaxIs w' := by
  obtain ⟨m, hm⟩ := h
  exact ⟨m, hx.cell hm⟩
end Go.Proofs.YtkfheeffbombhaaGreatDoor
/- walks of package tree: read, at a chance of two words -/
namespace Go.Proofs.YtkfheeffbombhaaGreatDoor
open Go.RowKit
set_option linter.unusedVariables false

/-- the node under way: its box, and the two slices that grow -/
structure CB (w : World) (b : Nat) (nv ov : Value) (c : Nat) (ns : List Int) (os : List ByteArray) : Prop where
  row : w.ownsRow b 38 1 (.slice (some ⟨b, 0, none⟩) 6 6) 6 [.int .i64 1, .int .i64 0, .int .i64 0, nv, ov, .string ⟨#[]⟩]
  li : LI (b + 1) 3 36 w nv ov c c (ns.map (Value.int .i64)) (os.map Value.string)
theorem CB.ext {w w' : World} {b : Nat} {nv ov : Value} {c : Nat} {ns : List Int} {os : List ByteArray} (h : CB w b nv ov c ns os) (hx : Ext w w') : CB w' b nv ov c ns os := ⟨own_ext h.row hx, h.li.ext hx⟩
section
variable {w WS : World} {b j : Nat} {x : Value} {l : List Value}
end
end Go.Proofs.YtkfheeffbombhaaGreatDoor
/- games laid by literals; guess -/
namespace Go.Proofs.YtkfheeffbombhaaGreatDoor
open Go.RowKit
set_option linter.unusedVariables false

/-- the cells of nodes that lie side by side -/
def flatN : List (Nd × Value × Value) → List Value
  | [] => []
  | p :: t => .int .i64 p.1.kind :: .int .i64 p.1.player :: .int .i64 p.1.info :: p.2.1 :: p.2.2 :: .string p.1.pay :: flatN t
theorem flatN_app : ∀ (L : List (Nd × Value × Value)) (p : Nd × Value × Value), flatN (L ++ [p]) = flatN L ++ [.int .i64 p.1.kind, .int .i64 p.1.player, .int .i64 p.1.info, p.2.1, p.2.2, .string p.1.pay]
  | [], p => rfl
  | q :: t, p => by simp [flatN, flatN_app t p]
theorem flatN_get : ∀ (L : List (Nd × Value × Value)) (i : Nat) (p : Nd × Value × Value), L[i]? = some p →
    (flatN L)[i * 6]? = some (.int .i64 p.1.kind) ∧ (flatN L)[i * 6 + 1]? = some (.int .i64 p.1.player) ∧ (flatN L)[i * 6 + 2]? = some (.int .i64 p.1.info) ∧
    (flatN L)[i * 6 + 3]? = some p.2.1 ∧ (flatN L)[i * 6 + 4]? = some p.2.2 ∧ (flatN L)[i * 6 + 5]? = some (.string p.1.pay)
  | [], i, p, h => by simp at h
  | q :: t, 0, p, h => by
    simp only [List.getElem?_cons_zero, Option.some.injEq] at h
    subst h
    exact ⟨rfl, rfl, rfl, rfl, rfl, rfl⟩
  | q :: t, i + 1, p, h => by
    have := flatN_get t i p (by simpa using h)
    have e : (i + 1) * 6 = i * 6 + 6 := by omega
    rw [e]
    exact this
theorem treeIn_of {w : World} {b off c : Nat} (L : List (Nd × Value × Value)) (hc : ∀ (j : Nat) u, (flatN L)[j]? = some u → w.cell? ⟨b, off + j, none⟩ = some u) (hn : ∀ p ∈ L, Ints w p.2.1 p.1.next ∧ Strs w p.2.2 p.1.odds) (hl : L.length ≤ c) (h2 : L.length ≤ 17592186044416) :
    TreeIn w (.slice (some ⟨b, off, none⟩) L.length c) (L.map (·.1)) := by
  refine ⟨some ⟨b, off, none⟩, c, (by rw [List.length_map]), (by rw [List.length_map]; exact hl), (fun e => by cases e), (by rw [List.length_map]; exact h2), fun i x hx => ?_⟩
  rw [List.getElem?_map] at hx
  cases hp : L[i]? with
  | none => rw [hp] at hx; cases hx
  | some p =>
    rw [hp] at hx
    obtain rfl := Option.some.inj hx
    obtain ⟨g0, g1, g2, g3, g4, g5⟩ := flatN_get L i p hp
    obtain ⟨hi, ho⟩ := hn p (List.mem_of_getElem? hp)
    exact ⟨b, off, p.2.1, p.2.2, rfl, ⟨hc _ _ g0, by rw [Nat.add_assoc]; exact hc _ _ g1, by rw [Nat.add_assoc]; exact hc _ _ g2, by rw [Nat.add_assoc]; exact hc _ _ g3, by rw [Nat.add_assoc]; exact hc _ _ g4, by rw [Nat.add_assoc]; exact hc _ _ g5, hi, ho⟩⟩
/-- a game that a literal lays -/
theorem lit_tree (w : World) (e : TypeId) (L : List (Nd × Value × Value)) (k : Nat) (hk : k = w.heap.size) (hn : ∀ p ∈ L, Ints w p.2.1 p.1.next ∧ Strs w p.2.2 p.1.odds) (h2 : L.length ≤ 1000) :
    TreeIn (w.alloc (.cells (flatN L).toArray e)) (.slice (some ⟨k, 0, none⟩) L.length L.length) (L.map (·.1)) := by
  subst hk
  refine treeIn_of L (fun j u hu => ?_) (fun p hp => ?_) (Nat.le_refl _) (by omega)
  · rw [Nat.zero_add]
    have hb : (w.alloc (.cells (flatN L).toArray e)).heap[w.heap.size]? = some (.cells (flatN L).toArray e) := by rw [← World.alloc_eq]; simp
    rw [cell_of_obj' hb]
    simpa using hu
  · exact ⟨(hn p hp).1.ext ((Ext.refl w).alloc _), (hn p hp).2.ext ((Ext.refl w).alloc _)⟩
def guessT : List Nd := [⟨2, 0, 0, [1, 2], [], ⟨#[]⟩⟩, ⟨2, 1, 3, [3, 4], [], ⟨#[]⟩⟩, ⟨2, 1, 3, [5, 6], [], ⟨#[]⟩⟩, ⟨0, 0, 0, [], [], ⟨#[45, 49]⟩⟩, ⟨0, 0, 0, [], [], ⟨#[49]⟩⟩, ⟨0, 0, 0, [], [], ⟨#[49]⟩⟩, ⟨0, 0, 0, [], [], ⟨#[45, 49]⟩⟩]
def guessL (k : Nat) : List (Nd × Value × Value) := [(⟨2, 0, 0, [1, 2], [], ⟨#[]⟩⟩, .slice (some ⟨k, 0, none⟩) 2 2, .slice none 0 0), (⟨2, 1, 3, [3, 4], [], ⟨#[]⟩⟩, .slice (some ⟨k + 1, 0, none⟩) 2 2, .slice none 0 0), (⟨2, 1, 3, [5, 6], [], ⟨#[]⟩⟩, .slice (some ⟨k + 1 + 1, 0, none⟩) 2 2, .slice none 0 0), (⟨0, 0, 0, [], [], ⟨#[45, 49]⟩⟩, .slice none 0 0, .slice none 0 0), (⟨0, 0, 0, [], [], ⟨#[49]⟩⟩, .slice none 0 0, .slice none 0 0), (⟨0, 0, 0, [], [], ⟨#[49]⟩⟩, .slice none 0 0, .slice none 0 0), (⟨0, 0, 0, [], [], ⟨#[45, 49]⟩⟩, .slice none 0 0, .slice none 0 0)]

set_option maxHeartbeats 1600000 in
set_option maxRecDepth 100000 in
theorem guess_any (w : World) : Calls Tryz.prog 42 #[] w fun e w' => ∃ u, e = .returned u ∧ TreeIn w' u guessT ∧ Ext w w' := by
  have hI : ∀ (W : World) (a b : Int) (k : Nat), k = W.heap.size → Ints (W.alloc (.cells #[.int .i64 a, .int .i64 b] 3)) (.slice (some ⟨k, 0, none⟩) 2 2) [a, b] := fun W a b k hk => by
    subst hk
    exact own_rowOf (xs := [a, b]) (World.ownsRow_lit (base := W.heap.size) (e := 3) (size := 1) W #[.int .i64 a, .int .i64 b] 2 (Nat.le_refl _) (by unfold maxLen; omega) (by simp)) (by omega)
  obtain ⟨k, hk⟩ : ∃ k, w.heap.size = k := ⟨_, rfl⟩
  obtain ⟨W1, hW1⟩ : ∃ W1, w.alloc (.cells #[.int .i64 1, .int .i64 2] 3) = W1 := ⟨_, rfl⟩
  obtain ⟨W2, hW2⟩ : ∃ W2, W1.alloc (.cells #[.int .i64 3, .int .i64 4] 3) = W2 := ⟨_, rfl⟩
  obtain ⟨W3, hW3⟩ : ∃ W3, W2.alloc (.cells #[.int .i64 5, .int .i64 6] 3) = W3 := ⟨_, rfl⟩
  have k1 : W1.heap.size = k + 1 := by rw [← hW1, World.size_alloc, hk]
  have k2 : W2.heap.size = k + 1 + 1 := by rw [← hW2, World.size_alloc, k1]
  have k3 : W3.heap.size = k + 1 + 1 + 1 := by rw [← hW3, World.size_alloc, k2]
  have X1 : Ext w W1 := by rw [← hW1]; exact (Ext.refl w).alloc _
  have X2 : Ext W1 W2 := by rw [← hW2]; exact (Ext.refl W1).alloc _
  have X3 : Ext W2 W3 := by rw [← hW3]; exact (Ext.refl W2).alloc _
  have i1 : Ints W3 (.slice (some ⟨k, 0, none⟩) 2 2) [1, 2] := ((by rw [← hW1]; exact hI w 1 2 k hk.symm : Ints W1 _ _).ext X2).ext X3
  have i2 : Ints W3 (.slice (some ⟨k + 1, 0, none⟩) 2 2) [3, 4] := (by rw [← hW2]; exact hI W1 3 4 (k + 1) k1.symm : Ints W2 _ _).ext X3
  have i3 : Ints W3 (.slice (some ⟨k + 1 + 1, 0, none⟩) 2 2) [5, 6] := by rw [← hW3]; exact hI W2 5 6 (k + 1 + 1) k2.symm
  have nI : Ints W3 (.slice none 0 0) [] := Row.nil _
  have nS : Strs W3 (.slice none 0 0) [] := Row.nil _
  have HT := Lib.hid (lit_tree W3 38 (guessL k) (k + 1 + 1 + 1) k3.symm (fun p hp => by
    unfold guessL at hp
    simp only [List.mem_cons, List.not_mem_nil, or_false] at hp
    rcases hp with rfl | rfl | rfl | rfl | rfl | rfl | rfl
    · exact ⟨i1, nS⟩
    · exact ⟨i2, nS⟩
    · exact ⟨i3, nS⟩
    · exact ⟨nI, nS⟩
    · exact ⟨nI, nS⟩
    · exact ⟨nI, nS⟩
    · exact ⟨nI, nS⟩) (by unfold guessL; simp))
  have HX := Lib.hid ((X1.trans X2).trans X3)
  clear i1 i2 i3 nI nS X1 X2 X3 hI
  go_enter Tryz.func42, Tryz.ntmps42
  go_wp2_with fail
  go_ret
  exact ⟨_, rfl, HT.out, HX.out.alloc _⟩
theorem guess_ok : treeE guessT = 0 := by decide +kernel
end Go.Proofs.YtkfheeffbombhaaGreatDoor
/- plain: the text of treeFact's game, its lines and words -/
namespace Go.Proofs.YtkfheeffbombhaaGreatDoor
open Go.RowKit
set_option linter.unusedVariables false

end Go.Proofs.YtkfheeffbombhaaGreatDoor
/- walks of package tree: Parse, at the text of treeFact -/
namespace Go.Proofs.YtkfheeffbombhaaGreatDoor
open Go.RowKit
set_option linter.unusedVariables false

/-- nodes that grow in an own slice -/
structure PO (w : World) (B : Nat) (v : Value) (L : List (Nd × Value × Value)) : Prop where
  row : w.ownsRow B 38 6 v L.length (flatN L)
  rd : ∀ p ∈ L, RowX v.ownBlock w p.2.1 (p.1.next.map (Value.int .i64)) ∧ RowX v.ownBlock w p.2.2 (p.1.odds.map Value.string)
theorem PO.ext {w w' : World} {B : Nat} {v : Value} {L : List (Nd × Value × Value)} (h : PO w B v L) (hx : Ext w w') : PO w' B v L :=
  ⟨own_ext h.row hx, fun p hp => ⟨(h.rd p hp).1.ext hx, (h.rd p hp).2.ext hx⟩⟩
theorem PO.grew {w w' : World} {B : Nat} {v v' : Value} {L : List (Nd × Value × Value)} {p : Nd × Value × Value} (h : PO w B v L) (ho : w'.ownsRow B 38 6 v' (L.length + 1) (flatN L ++ [.int .i64 p.1.kind, .int .i64 p.1.player, .int .i64 p.1.info, p.2.1, p.2.2, .string p.1.pay])) (hg : Grew w v w' v')
    (h1 : RowX v.ownBlock w p.2.1 (p.1.next.map (Value.int .i64))) (h2 : RowX v.ownBlock w p.2.2 (p.1.odds.map Value.string)) : PO w' B v' (L ++ [p]) := by
  refine ⟨by rw [List.length_append, List.length_singleton, flatN_app]; exact ho, fun q hq => ?_⟩
  rcases List.mem_append.1 hq with h' | h'
  · exact ⟨hg.row (h.rd q h').1, hg.row (h.rd q h').2⟩
  · rw [List.mem_singleton.1 h']; exact ⟨hg.row h1, hg.row h2⟩
theorem PO.nil (w : World) (B : Nat) : PO w B (.slice none 0 0) [] := ⟨World.ownsRow_nil _ _ _ _, fun p hp => by cases hp⟩
theorem PO.first {w w' : World} {B : Nat} {v' : Value} {p : Nd × Value × Value} (ho : w'.ownsRow B 38 6 v' (0 + 1) ([] ++ [.int .i64 p.1.kind, .int .i64 p.1.player, .int .i64 p.1.info, p.2.1, p.2.2, .string p.1.pay])) (hg : Grew w (.slice none 0 0) w' v')
    (h1 : Ints w p.2.1 p.1.next) (h2 : Strs w p.2.2 p.1.odds) : PO w' B v' ([] ++ [p]) := by
  have hE : Ext w w' := ⟨hg.by'.os, hg.by'.tape, hg.by'.output, hg.by'.size, fun k hk => hg.by'.block k hk (by simp [Value.ownBlock])⟩
  have hb : ∀ k, v'.ownBlock = some k → w.heap.size ≤ k := by
    rcases hg.blk with e | hk
    · rcases ho.2 with ⟨_, h0⟩ | ⟨g, cap, cur, rfl, _⟩
      · omega
      · simp [Value.ownBlock] at e
    · exact hk
  refine ⟨ho, fun q hq => ?_⟩
  have : q = p := by simpa using hq
  subst this
  exact ⟨⟨(Row.ext h1 hE), (Row.away h1 hb).2⟩, ⟨(Row.ext h2 hE), (Row.away h2 hb).2⟩⟩
end Go.Proofs.YtkfheeffbombhaaGreatDoor
/- plain: what treeFact says -/
namespace Go.Proofs.YtkfheeffbombhaaGreatDoor
open Go.RowKit
set_option linter.unusedVariables false

end Go.Proofs.YtkfheeffbombhaaGreatDoor
/- the walk of treeFact -/
namespace Go.Proofs.YtkfheeffbombhaaGreatDoor
open Go.RowKit
set_option linter.unusedVariables false

end Go.Proofs.YtkfheeffbombhaaGreatDoor
/- the walk of TreeChecks -/
namespace Go.Proofs.YtkfheeffbombhaaGreatDoor
open Go.RowKit
set_option linter.unusedVariables false

end Go.Proofs.YtkfheeffbombhaaGreatDoor
/- the library's variable that Split and Cut ask, from a world's shape -/
namespace Go.Proofs.YtkfheeffbombhaaGreatDoor
open Go.RowKit
end Go.Proofs.YtkfheeffbombhaaGreatDoor
