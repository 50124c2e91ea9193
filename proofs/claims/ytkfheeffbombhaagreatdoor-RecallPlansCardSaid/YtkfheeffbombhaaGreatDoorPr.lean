/- slices of pairs of numbers: read, grown -/
import Derived.Test.YtkfheeffbombhaaGreatDoorSlB
import Derived.OwnWalk
namespace Go.Proofs.YtkfheeffbombhaaGreatDoor
open Go.RowKit
set_option linter.unusedVariables false

def flat2 : List (Int × Int) → List Value
  | [] => []
  | p :: t => .int .i64 p.1 :: .int .i64 p.2 :: flat2 t
theorem flat2_len : ∀ ps, (flat2 ps).length = ps.length * 2
  | [] => rfl
  | p :: t => by simp only [flat2, List.length_cons, flat2_len t]; omega
theorem flat2_app : ∀ (ps qs : List (Int × Int)), flat2 (ps ++ qs) = flat2 ps ++ flat2 qs
  | [], qs => rfl
  | a :: t, qs => by simp only [List.cons_append, flat2, flat2_app t qs]
theorem flat2_get : ∀ (ps : List (Int × Int)) (i : Nat) (p : Int × Int), ps[i]? = some p → (flat2 ps)[i * 2]? = some (.int .i64 p.1) ∧ (flat2 ps)[i * 2 + 1]? = some (.int .i64 p.2)
  | [], i, p, h => by simp at h
  | a :: t, 0, p, h => by
    simp only [List.getElem?_cons_zero, Option.some.injEq] at h
    subst h
    exact ⟨rfl, rfl⟩
  | a :: t, i + 1, p, h => by
    have := flat2_get t i p (by simpa using h)
    rw [show (i + 1) * 2 = i * 2 + 2 by omega]
    exact this
theorem flat2_one : ∀ ps, ∀ x ∈ flat2 ps, x.oneCell' = true
  | [], x, h => by cases h
  | p :: t, x, h => by
    rw [flat2] at h
    rcases List.mem_cons.1 h with rfl | h
    · rfl
    · rcases List.mem_cons.1 h with rfl | h
      · rfl
      · exact flat2_one t x h
/-- the slice value reads as pairs -/
def P2Of (w : World) (ao : Option Addr) (ps : List (Int × Int)) : Prop := ∀ (j : Nat) (u : Value), (flat2 ps)[j]? = some u → ∃ b off, ao = some ⟨b, off, none⟩ ∧ w.cell? ⟨b, off + j, none⟩ = some u
def P2In (w : World) (v : Value) (ps : List (Int × Int)) : Prop := ∃ ao c, v = .slice ao ps.length c ∧ ps.length ≤ c ∧ (ao = none → c = 0) ∧ ps.length ≤ 17592186044416 ∧ P2Of w ao ps
theorem P2Of.ext {w w' : World} {ao : Option Addr} {ps : List (Int × Int)} (h : P2Of w ao ps) (hx : Ext w w') : P2Of w' ao ps := fun j u hu => by
  obtain ⟨b, off, e, hc⟩ := h j u hu
  exact ⟨b, off, e, hx.cell hc⟩
theorem P2In.ext {w w' : World} {v : Value} {ps : List (Int × Int)} (h : P2In w v ps) (hx : Ext w w') : P2In w' v ps := by
  obtain ⟨ao, c, h1, h2, h3, h4, h5⟩ := h
  exact ⟨ao, c, h1, h2, h3, h4, h5.ext hx⟩
theorem P2In.nil (w : World) : P2In w (.slice none 0 0) [] := ⟨none, 0, rfl, Nat.le_refl _, fun _ => rfl, by simp, fun j u h => by simp [flat2] at h⟩
theorem P2In.open {w : World} {v : Value} {ps : List (Int × Int)} (h : P2In w v ps) : ∃ ao c, v = .slice ao ps.length c ∧ ps.length ≤ 17592186044416 ∧ P2Of w ao ps := by
  obtain ⟨ao, c, h1, h2, h3, h4, h5⟩ := h
  exact ⟨ao, c, h1, h4, h5⟩
theorem P2Of.at {w : World} {ao : Option Addr} {ps : List (Int × Int)} (h : P2Of w ao ps) {i : Nat} {p : Int × Int} (hp : Hid (ps[i]? = some p)) : ∃ b off, ao = some ⟨b, off, none⟩ ∧ w.cell? ⟨b, off + i * 2, none⟩ = some (.int .i64 p.1) ∧ w.cell? ⟨b, off + i * 2 + 1, none⟩ = some (.int .i64 p.2) := by
  obtain ⟨g0, g1⟩ := flat2_get ps i p hp.out
  obtain ⟨b, off, e, c0⟩ := h _ _ g0
  obtain ⟨b', off', e', c1⟩ := h _ _ g1
  rw [e] at e'
  simp only [Option.some.injEq, Addr.mk.injEq, and_true] at e'
  obtain ⟨rfl, rfl⟩ := e'
  exact ⟨b, off, e, c0, c1⟩
theorem P2In.src {w : World} {v : Value} {ps : List (Int × Int)} (h : P2In w v ps) : Src w v ps.length 2 (flat2 ps) := by
  obtain ⟨ao, c, e, _, _, _, h5⟩ := h
  refine ⟨ao, c, e, flat2_len ps, flat2_one ps, fun hm => ?_⟩
  obtain ⟨p, t, rfl⟩ := List.exists_cons_of_ne_nil (l := ps) (by intro e; subst e; simp at hm)
  obtain ⟨b, off, rfl, _⟩ := h5 0 _ rfl
  refine ⟨b, off, rfl, fun j x hx => ?_⟩
  obtain ⟨b', off', e', hc⟩ := h5 j x hx
  simp only [Option.some.injEq, Addr.mk.injEq, and_true] at e'
  obtain ⟨rfl, rfl⟩ := e'
  exact hc
/-- an own slice of pairs -/
def P2O (w : World) (B : Nat) (v : Value) (ps : List (Int × Int)) : Prop := w.ownsRow B 72 2 v ps.length (flat2 ps)
theorem P2O.nil (w : World) (B : Nat) : P2O w B (.slice none 0 0) [] := World.ownsRow_nil _ _ _ _
theorem P2O.ext {w w' : World} {B : Nat} {v : Value} {ps : List (Int × Int)} (h : P2O w B v ps) (hx : Ext w w') : P2O w' B v ps := own_ext h hx
theorem P2O.toIn {w : World} {B : Nat} {v : Value} {ps : List (Int × Int)} (h : P2O w B v ps) (hl : ps.length ≤ 17592186044416) : P2In w v ps := by
  rcases h.2 with ⟨rfl, h0⟩ | ⟨g, cap, cur, rfl, hb, hg, hc, _⟩
  · have : ps = [] := List.eq_nil_of_length_eq_zero h0
    subst this
    exact P2In.nil w
  · refine ⟨_, _, rfl, hc, fun e => (by cases e), hl, fun j u hu => ⟨g, 0, rfl, ?_⟩⟩
    have := h.cells (g := g) rfl j u hu
    rwa [Addr.add_lit] at this
theorem info_p2 : (Tryz.prog.info? 72).map (fun i => (i.zero, i.size, i.bytes)) = some (some (.agg #[.int .i64 0, .int .i64 0]), 2, 16) := by kernel_rfl
theorem ei_p2 : EI Tryz.prog 64 72 (.agg #[.int .i64 0, .int .i64 0]) 2 16 := ⟨Tryz.underlying64, info_parts info_p2, by decide, by decide⟩
theorem src_new2 (w : World) (x y : Value) (e : TypeId) (h1 : x.oneCell' = true) (h2 : y.oneCell' = true) : Src (w.alloc (.cells #[x, y] e)) (.slice (some ⟨w.heap.size, 0, none⟩) 1 1) 1 2 [x, y] := by
  refine ⟨_, _, rfl, rfl, ?_, fun _ => ⟨_, _, rfl, fun j u hu => ?_⟩⟩
  · intro u hu
    rcases List.mem_cons.1 hu with rfl | hu
    · exact h1
    · rw [List.mem_singleton] at hu; subst hu; exact h2
  · match j, hu with
    | 0, hu => simp at hu; subst hu; simp [World.cell?_alloc_new]
    | 1, hu => simp at hu; subst hu; simp [World.cell?_alloc_new]
/-- append of one pair -/
theorem wp_app2 {P : Program} {rest : List Oper} {oa : Array Oper} {o : Oper} {a : Act} {Q : Exit → Act → World → Prop} {W : World} {x1 x2 : Value} (hg : o.guard = none) {s x : Operand} {t e : TypeId} {z : Value} {bytes : Nat}
    (ho : o.op = .call { callee := .builtin .append, args := #[s, x], argTypes := #[t, t] }) (ei : EI P t e z 2 bytes) {B : Nat} {v : Value} {n : Nat} {xs : List Value}
    (hown : W.ownsRow B e 2 v n xs) (hs : a.eval s = v) {k : Nat} (hx : a.eval x = .slice (some ⟨k, 0, none⟩) 1 1) (hk : k = W.heap.size) (h1 : x1.oneCell' = true) (h2 : x2.oneCell' = true) (hlen : n + 1 ≤ 17592186044416) (hby : (n + 1) * bytes ≤ 140737488355328) (hB : B ≤ W.heap.size)
    (h : ∀ v' w', w'.ownsRow B e 2 v' (n + 1) (xs ++ [x1, x2]) → Grew W v w' v' → wpList P oa Q rest (a.put o.dst v') w') : wpList P oa Q (o :: rest) a (W.alloc (.cells #[x1, x2] e)) := by
  subst hk
  refine wp_app hg ho ei hs (own_ext hown ((Ext.refl W).alloc _)) hx (src_new2 W x1 x2 e h1 h2) hlen hby (by simp; omega) fun v' w' g2 g3 => h v' w' g2 ⟨⟨g3.by'.os, g3.by'.tape, g3.by'.output, Nat.le_trans (by simp) g3.by'.size, fun k hk hn => ?_⟩, ?_⟩
  · rw [g3.by'.block k (by simp; omega) hn]; exact Below.heap_alloc W _ k hk
  · rcases g3.blk with e | e
    · exact .inl e
    · exact .inr fun k hk => by have := e k hk; simp at this; omega
end Go.Proofs.YtkfheeffbombhaaGreatDoor
