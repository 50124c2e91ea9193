/- the state of a valuer in memory -/
import Derived.Test.YtnmcljjfepngeaaTsH
namespace Go.Proofs.Ytnmcljjfepngeaa
open Go.RowKit Go.Maps
set_option linter.unusedVariables false

theorem MapG.blk {ι : Type} [DecidableEq ι] {P : Program} {k : TypeId} {enc : ι → Value} {dom : ι → Prop} {w : World} {b n : Nat} {f : ι → Option Value} (h : MapG P k enc dom w b n f) : ∃ es clock, w.heap[b]? = some (.map es clock) := by
  obtain ⟨D, ⟨es, clock, hb, _⟩, _⟩ := h
  exact ⟨es, clock, hb⟩
theorem MapG.len {ι : Type} [DecidableEq ι] {P : Program} {k : TypeId} {enc : ι → Value} {dom : ι → Prop} {w : World} {b n : Nat} {f : ι → Option Value} (h : MapG P k enc dom w b n f) {t e : TypeId} (ht : P.underlying t = some (.map k e)) : ∃ j, j ≤ n ∧ ∀ ty, (Builtin.len_ #[t] ty #[.map (some b)]).run P w = .ok (.int .i64 (j : Nat)) w := by
  obtain ⟨D, h1, _⟩ := h
  exact ⟨_, h1.size_le, fun ty => h1.len ht ty⟩
theorem MapG.cong {ι : Type} [DecidableEq ι] {P : Program} {k : TypeId} {enc : ι → Value} {dom : ι → Prop} {w : World} {b n : Nat} {f g : ι → Option Value} (h : MapG P k enc dom w b n f) (e : ∀ i, f i = g i) : MapG P k enc dom w b n g := by
  have : f = g := funext e
  rw [← this]; exact h
/-- a cell does not lie in a map's block -/
theorem cell_not_map {w : World} {p : Addr} {v : Value} (hc : w.cell? p = some v) {b : Nat} (hb : ∃ es clock, w.heap[b]? = some (.map es clock)) : p.block ≠ b := by
  obtain ⟨es, clock, hb⟩ := hb
  intro e
  unfold World.cell? at hc
  rw [e, hb] at hc
  cases hc
theorem Gr.cellM {b : Nat} {w w' : World} (h : Gr b w w') {p : Addr} {v : Value} (hc : w.cell? p = some v) (hb : ∃ es clock, w.heap[b]? = some (.map es clock)) : w'.cell? p = some v :=
  h.cell' hc (cell_not_map hc hb)
theorem Gr.rowM {b : Nat} {w w' : World} (h : Gr b w w') (hb : ∃ es clock, w.heap[b]? = some (.map es clock)) {v : Value} {vs : List Value} (hr : Row w v vs) : Row w' v vs := by
  obtain ⟨ao, c, h1, h2, h3, h4, h5⟩ := hr
  refine ⟨ao, c, h1, h2, h3, h4, fun i u hu => ?_⟩
  obtain ⟨k, off, e, hc⟩ := h5 i u hu
  exact ⟨k, off, e, h.cellM hc hb⟩
theorem Gr.qM {b : Nat} {w w' : World} (h : Gr b w w') (hb : ∃ es clock, w.heap[b]? = some (.map es clock)) {v : Value} {ps : List (Nat × List Nat)} (hr : QIn w v ps) : QIn w' v ps := by
  obtain ⟨ao, c, h1, h2, h3, h4, h5⟩ := hr
  refine ⟨ao, c, h1, h2, h3, h4, fun j u hu => ?_⟩
  obtain ⟨k, off, e, hc⟩ := h5 j u hu
  exact ⟨k, off, e, h.cellM hc hb⟩
theorem Gr.new {b c : Nat} {w x y : World} (h : Gr b w x) (k : Gr c x y) (hc : w.heap.size ≤ c) : Gr b w y :=
  ⟨k.os.trans h.os, k.tape.trans h.tape, k.output.trans h.output, Nat.le_trans h.size k.size, fun i hi hb => (k.block i (Nat.lt_of_lt_of_le hi h.size) (by omega)).trans (h.block i hi hb)⟩
theorem QIn.at {w : World} {ao : Option Addr} {n c : Nat} {ps : List (Nat × List Nat)} (h : QIn w (.slice ao n c) ps) {i : Nat} {p : Nat × List Nat} (hp : Hid (ps[i]? = some p)) : ∃ b off, ao = some ⟨b, off, none⟩ ∧ w.cell? ⟨b, off + i * 2, none⟩ = some (.int .i64 (p.1 : Int)) ∧ w.cell? ⟨b, off + i * 2 + 1, none⟩ = some (.string (bys p.2)) := by
  obtain ⟨ao', c', e, _, hof⟩ := h.open
  simp only [Value.slice.injEq] at e
  obtain ⟨rfl, _, _⟩ := e
  exact hof.at hp
def oV (o : Option Int) : Option Value := o.map (Value.int .i64)
theorem updM_oV {S : Type} [DecidableEq S] (m : S → Option Int) (s : S) (k : Int) (t : S) : (if t = s then some (Value.int .i64 k) else oV (m t)) = oV (updM m s k t) := by
  unfold updM
  by_cases h : t = s
  · rw [if_pos h, if_pos h]; rfl
  · rw [if_neg h, if_neg h]

/-- a valuer in memory -/
structure VS {S : Type} [DecidableEq S] (P : Program) (k : TypeId) (enc : S → Value) (dom : S → Prop) (U : List S) (W : World) (p b : Nat) (gv : Value) (most n : Nat) (m : S → Option Int) : Prop where
  c0 : W.cell? ⟨p, 0, none⟩ = some gv
  c1 : W.cell? ⟨p, 1, none⟩ = some (.int .i64 most)
  c2 : W.cell? ⟨p, 2, none⟩ = some (.map (some b))
  mp : MapG P k enc dom W b n (fun s => oV (m s))
  hn : n ≤ wgt U m
section
variable {S : Type} [DecidableEq S] {P : Program} {k : TypeId} {enc : S → Value} {dom : S → Prop} {U : List S} {W W' : World} {p b : Nat} {gv : Value} {most n : Nat} {m : S → Option Int}
theorem VS.ext (h : VS P k enc dom U W p b gv most n m) (hx : Ext W W') : VS P k enc dom U W' p b gv most n m :=
  ⟨hx.cell h.c0, hx.cell h.c1, hx.cell h.c2, h.mp.ext hx, h.hn⟩
theorem VS.gr (h : VS P k enc dom U W p b gv most n m) {c : Nat} (hx : Gr c W W') (hc : ∃ es clock, W.heap[c]? = some (.map es clock)) (hne : b ≠ c) : VS P k enc dom U W' p b gv most n m :=
  ⟨hx.cellM h.c0 hc, hx.cellM h.c1 hc, hx.cellM h.c2 hc, h.mp.gr hx hne, h.hn⟩
/-- a value is set -/
theorem VS.set (K : KeyE P k enc dom) (h : VS P k enc dom U W p b gv most n m) {t e : TypeId} (ht : P.underlying t = some (.map k e)) (hn : 2 * U.length < maxLen) {s : S} (hs : s ∈ U) (hd : dom s) (j : Int) (hk : kw (m s) < kw (some j)) :
    ∃ W', (Instr.mapUpdate t (.map (some b)) (enc s) (.int .i64 j)).run P W = .ok () W' ∧ VS P k enc dom U W' p b gv most (n + 1) (updM m s j) ∧ Gr b W W' := by
  have hw := wgt_le U m
  obtain ⟨W', r1, r2, r3⟩ := h.mp.set K ht (by have := h.hn; omega) hd (.int .i64 j)
  have hg := Gr.by' r3
  have hb := h.mp.blk
  refine ⟨W', r1, ⟨hg.cellM h.c0 hb, hg.cellM h.c1 hb, hg.cellM h.c2 hb, r2.cong fun t => updM_oV m s j t, ?_⟩, hg⟩
  have := wgt_upd hk hs
  have := h.hn
  omega
end
/-- what a computation of a value leaves -/
def VPost {S : Type} [DecidableEq S] (P : Program) (k : TypeId) (enc : S → Value) (dom : S → Prop) (U : List S) (val rk : S → Nat) (p b : Nat) (gv : Value) (most : Nat) (s : S) (ch : List S) (m : S → Option Int) (w w' : World) : Prop :=
  ∃ m' n', VS P k enc dom U w' p b gv most n' m' ∧ Learnt U val rk (rk s + 1) m m' ∧ m' s = some (val s : Int) ∧ (m s = none → ∀ t ∈ ch, m' t = some (val t : Int)) ∧ Gr b w w'
/-- the values that have been seen -/
def seenF (l : List Nat) (k : Int) : Option Value := if k ∈ l.map (fun n : Nat => (n : Int)) then some (.bool true) else none
theorem seenF_nil (k : Int) : seenF [] k = none := rfl
theorem seenF_snoc (l : List Nat) (x : Nat) (k : Int) : (if k = (x : Int) then some (Value.bool true) else seenF l k) = seenF (l ++ [x]) k := by
  unfold seenF
  rw [List.map_append]
  by_cases h : k = (x : Int)
  · rw [if_pos h, if_pos (by rw [h]; simp)]
  · rw [if_neg h]
    by_cases h2 : k ∈ l.map (fun n : Nat => (n : Int))
    · rw [if_pos h2, if_pos (List.mem_append_left _ h2)]
    · rw [if_neg h2, if_neg (by simp at h2 ⊢; exact ⟨h2, h⟩)]
theorem seenF_nat (l : List Nat) (n : Nat) : seenF l (n : Int) = if n ∈ l then some (.bool true) else none := by
  unfold seenF
  by_cases h : n ∈ l
  · rw [if_pos h, if_pos (List.mem_map.2 ⟨n, h, rfl⟩)]
  · rw [if_neg h, if_neg (by
      intro h2
      obtain ⟨x, hx, e⟩ := List.mem_map.1 h2
      have : x = n := by omega
      exact h (this ▸ hx))]
abbrev Seen (W : World) (c n : Nat) (l : List Nat) : Prop := MapG Try.prog 3 (Value.int .i64) (fun i : Int => (Lit.int .i64 i).wf = true) W c n (seenF l)
theorem zeroB (w : World) : (zeroValue 4).run Try.prog w = .ok (.bool false) w := by kernel_rfl
theorem zeroI' (w : World) : (zeroValue 3).run Try.prog w = .ok (.int .i64 0) w := by kernel_rfl
theorem keyE_i : KeyE Try.prog 3 (Value.int .i64) (fun i : Int => (Lit.int .i64 i).wf = true) := keyE_int Try.underlying3
theorem kw_none {j : Int} (h : j < 0) : kw none < kw (some j) := by unfold kw; simp [h]
theorem kw_busy {j : Int} (h : 0 ≤ j) : kw (some (-1)) < kw (some j) := by unfold kw; simp; rw [if_neg (by omega)]; omega
end Go.Proofs.Ytnmcljjfepngeaa
