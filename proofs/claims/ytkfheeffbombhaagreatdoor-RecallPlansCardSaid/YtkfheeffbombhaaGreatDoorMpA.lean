/- maps of the call's own, by what stands at a key -/
import Derived.Test.YtkfheeffbombhaaGreatDoorLibB
import Derived.Maps.OwnSet
import Derived.Maps.OwnOps
import Derived.Maps.Views
namespace Go.Proofs.YtkfheeffbombhaaGreatDoor
open Go.RowKit Go.Maps
set_option linter.unusedVariables false

/-- an element reads as itself -/
def RH (v : Value) : Option (DataW Value × List MemPlace) := some (.held v, [])
/-- keys by an index -/
structure KeyE {ι : Type} (P : Program) (k : TypeId) (enc : ι → Value) (dom : ι → Prop) : Prop where
  keyed : Keyed P k
  key : ∀ i, dom i → ∃ kl, keyOf P k (enc i) = some kl
  inj : ∀ i j, dom i → dom j → enc i = enc j → i = j
/-- block b is a map of at most n entries; f says what stands at a key -/
def MapG {ι : Type} (P : Program) (k : TypeId) (enc : ι → Value) (dom : ι → Prop) (w : World) (b n : Nat) (f : ι → Option Value) : Prop :=
  ∃ D : DataW Value, w.ownsMap P k RH b n D ∧ ∀ i kl, dom i → keyOf P k (enc i) = some kl → (f i = none → Maps.has D kl = false) ∧ ∀ u, f i = some u → Maps.has D kl = true ∧ ∀ z, D.atKey kl z = .held u

section
set_option linter.unusedSectionVars false
variable {ι : Type} [DecidableEq ι] {P : Program} {k : TypeId} {enc : ι → Value} {dom : ι → Prop} {w w' : World} {b n : Nat} {f : ι → Option Value}

theorem MapG.made (w : World) : MapG P k enc dom (w.alloc (.map #[] 0)) w.heap.size 0 (fun _ => none) :=
  ⟨_, World.ownsMap_made _ _ _ _, fun i kl _ _ => ⟨fun _ => rfl, fun u h => by cases h⟩⟩
theorem MapG.lt (h : MapG P k enc dom w b n f) : b < w.heap.size := let ⟨_, h1, _⟩ := h; h1.lt
theorem MapG.mono (h : MapG P k enc dom w b n f) {m : Nat} (hm : n ≤ m) : MapG P k enc dom w b m f := let ⟨D, h1, h2⟩ := h; ⟨D, h1.mono hm, h2⟩
theorem MapG.kept {row : Option Nat} (h : MapG P k enc dom w b n f) (hg : w.grownBy w' row) (hne : some b ≠ row) : MapG P k enc dom w' b n f := let ⟨D, h1, h2⟩ := h; ⟨D, h1.kept hg hne, h2⟩
theorem MapG.ext (h : MapG P k enc dom w b n f) (hx : Ext w w') : MapG P k enc dom w' b n f :=
  h.kept (row := none) ⟨hx.os, hx.tape, hx.output, hx.size, fun k hk _ => hx.block k hk⟩ (by simp)
theorem MapG.set (K : KeyE P k enc dom) (h : MapG P k enc dom w b n f) {t e : TypeId} (ht : P.underlying t = some (.map k e)) (hn : n < maxLen) {i : ι} (hi : dom i) (u : Value) :
    ∃ w', (Instr.mapUpdate t (.map (some b)) (enc i) u).run P w = .ok () w' ∧ MapG P k enc dom w' b (n + 1) (fun j => if j = i then some u else f j) ∧ w.grownBy w' (some b) := by
  obtain ⟨D, h1, h2⟩ := h
  obtain ⟨kl, hk⟩ := K.key i hi
  obtain ⟨w', r1, r2, r3⟩ := h1.update K.keyed ht hn hk (val := u) (d := .held u) (ps := []) rfl
  have hM := h1.isMap
  have hL := K.keyed.key hk
  refine ⟨w', r1, ⟨_, r2, fun j kj hj hkj => ?_⟩, r3⟩
  by_cases e : j = i
  · subst e
    have e2 : kj = kl := Option.some.inj (hkj.symm.trans hk)
    subst e2
    dsimp only
    rw [if_pos rfl]
    refine ⟨fun h => (by cases h), fun v hv => ?_⟩
    obtain rfl := Option.some.inj hv
    exact ⟨has_put_same hM hL _, fun z => atKey_put_same hM hL _ z⟩
  · have hne : kj ≠ kl := fun e2 => e (K.inj _ _ hj hi (K.keyed.inj (e2 ▸ hkj) hk))
    dsimp only
    rw [if_neg e, has_put_other hne]
    obtain ⟨a1, a2⟩ := h2 j kj hj hkj
    exact ⟨a1, fun v hv => ⟨(a2 v hv).1, fun z => by rw [atKey_put_other hne]; exact (a2 v hv).2 z⟩⟩
theorem MapG.look (K : KeyE P k enc dom) (h : MapG P k enc dom w b n f) {t e : TypeId} (ht : P.underlying t = some (.map k e)) {z : Value} (hz : (zeroValue e).run P w = .ok z w) {i : ι} (hi : dom i) {o : Option Value} (ho : f i = o) :
    (Instr.lookup t (.map (some b)) (enc i) true).run P w = .ok (.tuple #[o.getD z, .bool o.isSome]) w := by
  obtain ⟨D, h1, h2⟩ := h
  obtain ⟨kl, hk⟩ := K.key i hi
  obtain ⟨v, ps, r1, r2⟩ := h1.look_ok K.keyed ht hz (zd := .held z) (zp := []) rfl hk
  obtain ⟨a1, a2⟩ := h2 i kl hi hk
  rw [r1]
  have e1 : DataW.held v = D.atKey kl (.held z) := congrArg Prod.fst (Option.some.inj r2)
  cases o with
  | none =>
    have hh := a1 ho
    rw [atKey_of_not_has hh] at e1
    rw [hh]
    cases e1
    rfl
  | some u =>
    obtain ⟨b1, b2⟩ := a2 u ho
    rw [b2] at e1
    rw [b1]
    cases e1
    rfl
theorem MapG.look1 (K : KeyE P k enc dom) (h : MapG P k enc dom w b n f) {t e : TypeId} (ht : P.underlying t = some (.map k e)) {z : Value} (hz : (zeroValue e).run P w = .ok z w) {i : ι} (hi : dom i) {o : Option Value} (ho : f i = o) :
    (Instr.lookup t (.map (some b)) (enc i) false).run P w = .ok (o.getD z) w := by
  obtain ⟨D, h1, h2⟩ := h
  obtain ⟨kl, hk⟩ := K.key i hi
  obtain ⟨v, ps, r1, r2⟩ := h1.lookup K.keyed ht hz (zd := .held z) (zp := []) rfl hk
  obtain ⟨a1, a2⟩ := h2 i kl hi hk
  rw [r1]
  have e1 : DataW.held v = D.atKey kl (.held z) := congrArg Prod.fst (Option.some.inj r2)
  cases o with
  | none =>
    have hh := a1 ho
    rw [atKey_of_not_has hh] at e1
    cases e1
    rfl
  | some u =>
    obtain ⟨b1, b2⟩ := a2 u ho
    rw [b2] at e1
    cases e1
    rfl
end

/-- 'm[k] = v' at the operation -/
theorem wp_put {ι : Type} [DecidableEq ι] {P : Program} {k : TypeId} {enc : ι → Value} {dom : ι → Prop} {w : World} {b n : Nat} {f : ι → Option Value} {ops : Array Oper} {rest : List Oper} {o : Oper} {a : Act} {Q : Exit → Act → World → Prop}
    (hg : o.guard = none) {m x v : Operand} {t e : TypeId} (hop : o.op = Op.mapUpdate t m x v) (K : KeyE P k enc dom) (ht : P.underlying t = some (.map k e)) (hm : a.eval m = .map (some b)) (h : MapG P k enc dom w b n f) (hn : n < maxLen)
    {i : ι} (hx : a.eval x = enc i) (hi : dom i) {u : Value} (hv : a.eval v = u)
    (hK : ∀ w', MapG P k enc dom w' b (n + 1) (fun j => if j = i then some u else f j) → w.grownBy w' (some b) → wpList P ops Q rest (a.put o.dst undef) w') : wpList P ops Q (o :: rest) a w := by
  refine wpList_plain hg fun K' hK' => ?_
  obtain ⟨w', hrun, r1, r2⟩ := h.set K ht hn hi u
  unfold Oper.wp
  simp [execOp, hop, hm, hx, hv, hrun, Result.andThen]
  exact hK' _ _ (hK w' r1 r2)
/-- 'v, ok := m[k]' at the operation -/
theorem wp_look {ι : Type} [DecidableEq ι] {P : Program} {k : TypeId} {enc : ι → Value} {dom : ι → Prop} {w : World} {b n : Nat} {f : ι → Option Value} {ops : Array Oper} {rest : List Oper} {o : Oper} {a : Act} {Q : Exit → Act → World → Prop}
    (hg : o.guard = none) {m x : Operand} {t e : TypeId} (hop : o.op = Op.lookup t m x true) (K : KeyE P k enc dom) (ht : P.underlying t = some (.map k e)) {z : Value} (hz : (zeroValue e).run P w = .ok z w) (hm : a.eval m = .map (some b)) (h : MapG P k enc dom w b n f)
    {i : ι} (hx : a.eval x = enc i) (hi : dom i) {r : Option Value} (hr : f i = r)
    (hK : wpList P ops Q rest (a.put o.dst (.tuple #[r.getD z, .bool r.isSome])) w) : wpList P ops Q (o :: rest) a w := by
  refine wpList_plain hg fun K' hK' => ?_
  have hrun := h.look K ht hz hi hr
  unfold Oper.wp
  simp [execOp, hop, hm, hx, hrun, Result.andThen]
  exact hK' _ _ hK
/-- numbers as keys -/
theorem keyE_int {P : Program} {k : TypeId} (hk : P.underlying k = some (.int .i64)) : KeyE P k (Value.int .i64) (fun i : Int => (Lit.int .i64 i).wf = true) :=
  ⟨int_keyed hk, fun i hi => ⟨_, keyOf_int_mk hk hi⟩, fun i j _ _ e => by injection e⟩
end Go.Proofs.YtkfheeffbombhaaGreatDoor
