/- texts merged: MxI MxJ MxK MxL MxM MxN MxO -/
import Derived.Test.YtnfmknjhkpgppaaGreatDoorMxY
import Derived.Test.YtnfmknjhkpgppaaGreatDoorRgX
import Derived.Test.YtnfmknjhkpgppaaGreatDoorPlB
/- slices of whole numbers that the call owns: append -/
namespace Go.Proofs.YtnfmknjhkpgppaaGreatDoor
open Go.RowKit
set_option linter.unusedVariables false

theorem info_z : (Tryz.prog.info? 58).map (fun i => (i.zero, i.size, i.bytes)) = some (some (.agg #[.bool false, .slice none 0 0]), 2, 32) := by kernel_rfl
theorem ei_z : EI Tryz.prog 68 58 (.agg #[.bool false, .slice none 0 0]) 2 32 := ⟨Tryz.underlying68, info_parts info_z, by decide, by decide⟩
theorem zc_z : ∀ x ∈ (Value.agg #[.bool false, .slice none 0 0]).cells.toList, ∀ d : Nat, x ≠ encD d := by
  intro x hx d
  simp [Value.cells] at hx
  rcases hx with rfl | rfl <;> simp [encD]
abbrev UV := Value × Value
def UV.v (t : UV) : Value := .agg #[t.1, t.2]
def flatU : List UV → List Value
  | [] => []
  | t :: ts => t.1 :: t.2 :: flatU ts
theorem flatU_app : ∀ (ts : List UV) (t : UV), flatU (ts ++ [t]) = flatU ts ++ [t.1, t.2]
  | [], _ => rfl
  | s :: ts, t => by show _ :: _ :: flatU (ts ++ [t]) = _; rw [flatU_app ts t]; rfl
theorem Clean.keptI {w w' : World} {v u : Value} {z : Int} (hc : Clean w v) (hg : w.grownBy w' v.ownBlock) (h : IntV w u z) : IntV w' u z := by
  obtain ⟨q, ao, l, c, h1, h2, h3, h4⟩ := h
  exact ⟨q, ao, l, c, h1, h2, h3, hc.kept hg h4⟩
/-- an own slice of whole numbers -/
def ZsO (w : World) (B : Nat) (v : Value) (zs : List Int) : Prop := ∃ ts : List UV, w.ownsRow B 58 2 v zs.length (flatU ts) ∧ Clean w v ∧ ts.length = zs.length ∧ ∀ (i : Nat) t z, ts[i]? = some t → zs[i]? = some z → IntV w t.v z
theorem ZsO.nil (w : World) (B : Nat) : ZsO w B (.slice none 0 0) [] := ⟨[], World.ownsRow_nil _ _ _ _, Clean.nil _, rfl, fun i t q h => by simp at h⟩
theorem ZsO.ext {w w' : World} {B : Nat} {v : Value} {zs : List Int} (h : ZsO w B v zs) (hx : Ext w w') : ZsO w' B v zs := by
  obtain ⟨ts, h1, h2, h3, h4⟩ := h
  exact ⟨ts, own_ext h1 hx, h2.ext hx, h3, fun i t q a b => (h4 i t q a b).ext hx⟩
theorem ZsO.mono {w : World} {B C : Nat} {v : Value} {zs : List Int} (h : ZsO w B v zs) (hc : C ≤ B) : ZsO w C v zs := by
  obtain ⟨ts, h1, h2, h3, h4⟩ := h
  exact ⟨ts, own_mono h1 hc, h2, h3, h4⟩
theorem ZsO.lt {w : World} {B : Nat} {v : Value} {zs : List Int} (h : ZsO w B v zs) : ∀ k, v.ownBlock = some k → B ≤ k ∧ k < w.heap.size := by
  obtain ⟨ts, h1, h2, h3, h4⟩ := h
  exact fun k hk => h1.lt k hk
theorem ZsO.clean {w : World} {B : Nat} {v : Value} {zs : List Int} (h : ZsO w B v zs) : Clean w v := by
  obtain ⟨ts, h1, h2, h3, h4⟩ := h
  exact h2
theorem ZsO.grew {w0 w w' : World} {B : Nat} {v v' : Value} {zs : List Int} (h : ZsO w B v zs) (hg : Grew w v w' v') (he : Ext w0 w) (hB : w0.heap.size ≤ B) : Ext w0 w' :=
  hg.ext he (fun k hk => Nat.le_trans hB (h.lt k hk).1)
theorem ZsO.kept {w w' : World} {B : Nat} {v u : Value} {zs : List Int} (hc : Clean w v) (hg : w.grownBy w' v.ownBlock) (h : ZsO w B u zs) (hne : u.ownBlock = none ∨ u.ownBlock ≠ v.ownBlock) : ZsO w' B u zs := by
  obtain ⟨ts, h1, h2, h3, h4⟩ := h
  refine ⟨ts, own_kept h1 hg (hne.elim .inr .inl), fun g hgb => ?_, h3, fun i t q a b => hc.keptI hg (h4 i t q a b)⟩
  obtain ⟨cur, e, fr, hb, hn⟩ := h2 g hgb
  refine ⟨cur, e, fr, ?_, hn⟩
  rw [hg.block g (Array.getElem?_eq_some_iff.1 hb).1 (fun e => ?_)]
  · exact hb
  · rcases hne with h | h
    · rw [h] at hgb; cases hgb
    · exact h (by rw [hgb, e])
/-- append of a whole number to an own slice -/
theorem wp_appZ {rest : List Oper} {oa : Array Oper} {o : Oper} {a : Act} {Q : Exit → Act → World → Prop} {W : World} {s : Bool} {xo : Option Addr} {xl xc : Nat} (hg : o.guard = none) {sl x : Operand}
    (ho : o.op = .call { callee := .builtin .append, args := #[sl, x], argTypes := #[68, 68] }) {B : Nat} {v : Value} {zs : List Int} {z : Int} (hO : ZsO W B v zs) (hq : IntV W (.agg #[.bool s, .slice xo xl xc]) z)
    (hs : a.eval sl = v) {k : Nat} (hx : a.eval x = .slice (some ⟨k, 0, none⟩) 1 1) (hk : k = W.heap.size) (hlen : zs.length ≤ 1000000) (hB : B ≤ W.heap.size)
    (h : ∀ v' w', ZsO w' B v' (zs ++ [z]) → Grew W v w' v' → Clean W v → wpList Tryz.prog oa Q rest (a.put o.dst v') w') : wpList Tryz.prog oa Q (o :: rest) a (W.alloc (.cells #[.bool s, .slice xo xl xc] 58)) := by
  obtain ⟨ts, h1, h2, h3, h4⟩ := hO
  refine wp_app2c hg ho ei_z zc_z h1 h2 hs hx hk rfl rfl (by intro y hy d; simp at hy; rcases hy with rfl | rfl <;> simp [encD]) (by omega) (by omega) hB ?_
  intro v' w' hown hgrew hclean
  refine h v' w' ⟨ts ++ [(.bool s, .slice xo xl xc)], ?_, hclean, by simp [h3], fun i t q2 hi hq2 => ?_⟩ hgrew h2
  · rw [flatU_app, List.length_append]; exact hown
  · rcases Nat.lt_or_ge i zs.length with hlt | hge
    · rw [List.getElem?_append_left (by omega)] at hi hq2
      exact h2.keptI hgrew.by' (h4 i t q2 hi hq2)
    · rw [List.getElem?_append_right (by omega)] at hi hq2
      have e1 : i - ts.length = 0 := by have := (List.getElem?_eq_some_iff.1 hi).1; simp at this; omega
      have e2 : i - zs.length = 0 := by omega
      rw [e1] at hi
      rw [e2] at hq2
      simp only [List.getElem?_cons_zero, Option.some.injEq] at hi hq2
      subst hi
      subst hq2
      exact h2.keptI hgrew.by' hq
end Go.Proofs.YtnfmknjhkpgppaaGreatDoor
/- rows of whole numbers that the call owns: read, store, exchange -/
namespace Go.Proofs.YtnfmknjhkpgppaaGreatDoor
open Go.RowKit
set_option linter.unusedVariables false

theorem flatU_len : ∀ ts, (flatU ts).length = ts.length * 2
  | [] => rfl
  | t :: ts => by show (flatU ts).length + 2 = _; rw [flatU_len ts, List.length_cons]; omega
theorem flatU_get : ∀ (ts : List UV) (i : Nat) (t : UV), ts[i]? = some t → (flatU ts)[i * 2]? = some t.1 ∧ (flatU ts)[i * 2 + 1]? = some t.2
  | s :: ts, 0, t, h => by
    simp only [List.getElem?_cons_zero, Option.some.injEq] at h
    subst h
    exact ⟨rfl, rfl⟩
  | s :: ts, i + 1, t, h => by
    simp only [List.getElem?_cons_succ] at h
    have := flatU_get ts i t h
    rw [show (i + 1) * 2 = i * 2 + 2 by omega]
    exact this
theorem flatU_set : ∀ (ts : List UV) (i : Nat) (a b : Value), i < ts.length → flatU (ts.set i (a, b)) = ((flatU ts).set (i * 2) a).set (i * 2 + 1) b
  | t :: ts, 0, a, b, _ => rfl
  | t :: ts, i + 1, a, b, h => by
    have := flatU_set ts i a b (by simpa using h)
    have e : (i + 1) * 2 = i * 2 + 2 := by omega
    rw [e, List.set_cons_succ, flatU, this]
    rfl
structure StZ (w : World) (g i : Nat) (x y : Value) : Prop where
  f0 : w.frozen? ⟨g, i * 2, none⟩ = false
  c0 : w.cell? ⟨g, i * 2, none⟩ = some x
  f1 : ∀ a, (w.setCell ⟨g, i * 2, none⟩ a).frozen? ⟨g, i * 2 + 1, none⟩ = false
  c1 : ∀ a, (w.setCell ⟨g, i * 2, none⟩ a).cell? ⟨g, i * 2 + 1, none⟩ = some y
theorem own_form {w : World} {B g n cap k s : Nat} {e : TypeId} {xs : List Value} (h : w.ownsRow B e s (.slice (some ⟨g, 0, none⟩) n cap) k xs) : n = k := by
  rcases h.2 with ⟨e, _⟩ | ⟨g2, cap2, cur, e, _⟩
  · simp at e
  · simp only [Value.slice.injEq] at e; exact e.2.1
theorem own_succ {W : World} {B : Nat} {e : TypeId} {s : Nat} {v : Value} {k : Nat} {xs : List Value} (h : W.ownsRow B e s v (k + 1) xs) : ∃ g cap, v = .slice (some ⟨g, 0, none⟩) (k + 1) cap := by
  rcases h.2 with ⟨_, e⟩ | ⟨g2, cap2, cur, e, _⟩
  · omega
  · exact ⟨g2, cap2, e⟩
theorem ZsO.read {w : World} {B g n cap : Nat} {zs : List Int} (h : ZsO w B (.slice (some ⟨g, 0, none⟩) n cap) zs) {i : Nat} {z : Int} (hi : zs[i]? = some z) :
    ∃ s a l c, w.cell? ⟨g, i * 2, none⟩ = some (.bool s) ∧ w.cell? ⟨g, i * 2 + 1, none⟩ = some (.slice a l c) ∧ IntV w (.agg #[.bool s, .slice a l c]) z := by
  obtain ⟨ts, h1, h2, h3, h4⟩ := h
  have hn := own_form h1
  subst hn
  have hlt := (List.getElem?_eq_some_iff.1 hi).1
  have hti : ts[i]? = some (ts[i]'(by omega)) := List.getElem?_eq_getElem (by omega)
  obtain ⟨p0, p1⟩ := flatU_get ts i _ hti
  have hz := h4 i _ z hti hi
  obtain ⟨s, a, l, c, e, z2, z3, z4⟩ := hz
  unfold UV.v at e
  simp only [Value.agg.injEq, Array.mk.injEq, List.cons.injEq, and_true] at e
  obtain ⟨e1, e2⟩ := e
  have cc : ∀ {j : Nat} {u : Value}, (flatU ts)[j]? = some u → w.cell? ⟨g, j, none⟩ = some u := by
    intro j u hj
    have := h1.cells (g := g) rfl j u hj
    rwa [Addr.add_lit, Nat.zero_add] at this
  rw [e1] at p0
  rw [e2] at p1
  exact ⟨s, a, l, c, cc p0, cc p1, s, a, l, c, rfl, z2, z3, z4⟩
theorem ZsO.stored {w : World} {B g n cap : Nat} {zs : List Int} (h : ZsO w B (.slice (some ⟨g, 0, none⟩) n cap) zs) {i : Nat} (hi : i < zs.length) : ∃ x y, StZ w g i x y ∧
    ∀ s a l c z, IntV w (.agg #[.bool s, .slice a l c]) z → ∃ w', ((w.setCell ⟨g, i * 2, none⟩ (.bool s)).setCell ⟨g, i * 2 + 1, none⟩ (.slice a l c)) = w' ∧ w.grownBy w' (some g) ∧ ZsO w' B (.slice (some ⟨g, 0, none⟩) n cap) (zs.set i z) := by
  obtain ⟨ts, h1, h2, h3, h4⟩ := h
  have hn := own_form h1
  subst hn
  have s1 := fun a => h1.stored (i * 2) a
  have s2 := fun a b => (s1 a).1.stored (i * 2 + 1) b
  have hti : ts[i]? = some (ts[i]'(by omega)) := List.getElem?_eq_getElem (by omega)
  obtain ⟨p0, p1⟩ := flatU_get ts i _ hti
  have hfl := flatU_len ts
  have cc : ∀ {w1 : World} {xs : List Value} (_ : w1.ownsRow B 58 2 (.slice (some ⟨g, 0, none⟩) zs.length cap) zs.length xs) {j : Nat} {u : Value}, xs[j]? = some u → w1.cell? ⟨g, j, none⟩ = some u := by
    intro w1 xs hh j u hj
    have := hh.cells (g := g) rfl j u hj
    rwa [Addr.add_lit, Nat.zero_add] at this
  refine ⟨_, _, ⟨h1.frozenAt (i * 2), cc h1 p0, fun a => (s1 a).1.frozenAt (i * 2 + 1), fun a => cc (s1 a).1 (by rw [List.getElem?_set_ne (by omega)]; exact p1)⟩, ?_⟩
  intro s a l c z hq
  have hgr := Lib.grownBy_trans (s1 (.bool s)).2 (s2 (.bool s) (.slice a l c)).2
  have hrow := (s2 (.bool s) (.slice a l c)).1
  refine ⟨_, rfl, hgr, ts.set i (.bool s, .slice a l c), ?_, ?_, by simp [h3], fun j t q2 hj hq2 => ?_⟩
  · rw [flatU_set _ _ _ _ (by omega), List.length_set]; exact hrow
  · intro k hk
    simp only [Value.ownBlock, Option.some.injEq] at hk
    subst hk
    rcases hrow.2 with ⟨e, _⟩ | ⟨g2, cap2, cur, e, _, hgc, _, hcm, hcs, htk⟩
    · simp at e
    · simp only [Value.slice.injEq, Option.some.injEq, Addr.mk.injEq, and_true, true_and] at e
      obtain ⟨rfl, rfl⟩ := e
      refine ⟨cur, _, _, hgc, ?_⟩
      obtain ⟨cur0, e0, fr0, hb0, hn0⟩ := h2 g rfl
      intro j d2 hj
      have hcell : ((w.setCell ⟨g, i * 2, none⟩ (.bool s)).setCell ⟨g, i * 2 + 1, none⟩ (.slice a l c)).cell? ⟨g, j, none⟩ = some (encD d2) := by rw [cell_of_obj' hgc]; exact hj
      by_cases j1 : j = i * 2 + 1
      · have := cc hrow (j := j) (u := .slice a l c) (by rw [j1, List.getElem?_set_self (by rw [List.length_set]; omega)])
        rw [hcell] at this
        simp [encD] at this
      · by_cases j0 : j = i * 2
        · have := cc hrow (j := j) (u := .bool s) (by rw [List.getElem?_set_ne (by omega), j0, List.getElem?_set_self (by omega)])
          rw [hcell] at this
          simp [encD] at this
        · have hold : w.cell? ⟨g, j, none⟩ = some (encD d2) := by
            rw [← hcell]
            rw [World.cell?_setCell_other, World.cell?_setCell_other]
            all_goals (intro e; simp at e <;> omega)
          rw [cell_of_obj' hb0] at hold
          exact hn0 j d2 hold
  · by_cases hji : j = i
    · subst hji
      rw [List.getElem?_set_self (by omega)] at hj
      rw [List.getElem?_set_self hi] at hq2
      cases hj
      cases hq2
      exact h2.keptI (v := .slice (some ⟨g, 0, none⟩) zs.length cap) hgr hq
    · rw [List.getElem?_set_ne (by omega)] at hj hq2
      exact h2.keptI (v := .slice (some ⟨g, 0, none⟩) zs.length cap) hgr (h4 j t q2 hj hq2)

theorem info_zs : (Tryz.prog.info? 68).map (fun i => (i.zero, i.size, i.bytes)) = some (some (.slice none 0 0), 1, 24) := by kernel_rfl
theorem ei_zs : EI Tryz.prog 67 68 (.slice none 0 0) 1 24 := ⟨Tryz.underlying67, info_parts info_zs, by decide, by decide⟩
/-- rows of whole numbers, each in a block of its own; no row is empty -/
structure ZzR (w : World) (B : Nat) (v : Value) (us : List Value) (M : List (List Int)) : Prop where
  own : w.ownsRow B 68 1 v M.length us
  cl : Clean w v
  len : us.length = M.length
  row : ∀ (i : Nat) u zs, us[i]? = some u → M[i]? = some zs → ZsO w B u zs
  blk : ∀ (i : Nat) u, us[i]? = some u → ∃ g n c, u = .slice (some ⟨g, 0, none⟩) n c ∧ v.ownBlock ≠ some g
  dis : ∀ (i j : Nat) u u', us[i]? = some u → us[j]? = some u' → i ≠ j → u.ownBlock ≠ u'.ownBlock
def ZzO (w : World) (B : Nat) (v : Value) (M : List (List Int)) : Prop := ∃ us, ZzR w B v us M
theorem ZzO.nil (w : World) (B : Nat) : ZzO w B (.slice none 0 0) [] := ⟨[], World.ownsRow_nil _ _ _ _, Clean.nil _, rfl, fun i u zs h => by simp at h, fun i u h => by simp at h, fun i j u u' h => by simp at h⟩
theorem ZzO.ext {w w' : World} {B : Nat} {v : Value} {M : List (List Int)} (h : ZzO w B v M) (hx : Ext w w') : ZzO w' B v M := by
  obtain ⟨us, h⟩ := h
  exact ⟨us, own_ext h.own hx, h.cl.ext hx, h.len, fun i u zs a b => (h.row i u zs a b).ext hx, h.blk, h.dis⟩
theorem ZzO.lt {w : World} {B : Nat} {v : Value} {M : List (List Int)} (h : ZzO w B v M) : ∀ k, v.ownBlock = some k → B ≤ k ∧ k < w.heap.size := by
  obtain ⟨us, h⟩ := h
  exact fun k hk => h.own.lt k hk
theorem ZzO.clean {w : World} {B : Nat} {v : Value} {M : List (List Int)} (h : ZzO w B v M) : Clean w v := by
  obtain ⟨us, h⟩ := h
  exact h.cl
/-- a row of them -/
theorem ZzO.at {w : World} {B : Nat} {v : Value} {M : List (List Int)} (h : ZzO w B v M) {i : Nat} {zs : List Int} (hi : M[i]? = some zs) : ∃ go cap g c, v = .slice (some ⟨go, 0, none⟩) M.length cap ∧ B ≤ go ∧
    w.cell? ⟨go, i, none⟩ = some (.slice (some ⟨g, 0, none⟩) zs.length c) ∧ ZsO w B (.slice (some ⟨g, 0, none⟩) zs.length c) zs ∧ g ≠ go ∧ B ≤ g ∧
    ∀ w' zs', zs'.length = zs.length → w.grownBy w' (some g) → ZsO w' B (.slice (some ⟨g, 0, none⟩) zs.length c) zs' → Clean w (.slice (some ⟨g, 0, none⟩) zs.length c) → ZzO w' B v (M.set i zs') := by
  obtain ⟨us, h⟩ := h
  have hlt := (List.getElem?_eq_some_iff.1 hi).1
  have hui : us[i]? = some (us[i]'(by rw [h.len]; exact hlt)) := List.getElem?_eq_getElem _
  obtain ⟨g, n, c, e, hne⟩ := h.blk i _ hui
  rw [e] at hui
  have hz := h.row i _ zs hui hi
  have hn : n = zs.length := by obtain ⟨ts, h1, _⟩ := hz; exact own_form h1
  subst hn
  obtain ⟨k, hk⟩ : ∃ k, M.length = k + 1 := ⟨M.length - 1, by omega⟩
  have hown := h.own
  rw [hk] at hown
  obtain ⟨go, cap, hv⟩ := own_succ hown
  rw [← hk] at hv
  subst hv
  clear hown
  have hc := h.own.cells (g := go) rfl i _ hui
  rw [Addr.add_lit, Nat.zero_add] at hc
  have hgg : g ≠ go := fun e => hne (by rw [e]; rfl)
  refine ⟨go, cap, g, c, rfl, (h.own.lt go rfl).1, hc, hz, hgg, (hz.lt g rfl).1, fun w' zs' hl hg hz' hcl => ⟨us, ?_⟩⟩
  refine ⟨?_, ?_, by rw [h.len, List.length_set], fun j u zs2 hu hm => ?_, h.blk, h.dis⟩
  · rw [List.length_set]
    exact own_kept h.own hg (.inl (by simp only [Value.ownBlock, ne_eq, Option.some.injEq]; exact fun e => hgg e.symm))
  · intro k2 hk2
    obtain ⟨cur, e3, fr, hb, hnd⟩ := h.cl k2 hk2
    refine ⟨cur, e3, fr, ?_, hnd⟩
    rw [hg.block k2 (Array.getElem?_eq_some_iff.1 hb).1 (fun e => hgg (by simp only [Value.ownBlock, Option.some.injEq] at hk2 e; omega))]
    exact hb
  · by_cases hji : j = i
    · subst hji
      rw [hui] at hu
      cases hu
      rw [List.getElem?_set_self hlt] at hm
      cases hm
      exact hz'
    · rw [List.getElem?_set_ne (by omega)] at hm
      exact ZsO.kept (v := .slice (some ⟨g, 0, none⟩) zs.length c) hcl hg (h.row j u zs2 hu hm) (.inr (h.dis j i u _ hu hui hji))
/-- two rows change places -/
theorem ZzO.swap {w : World} {B : Nat} {v : Value} {M : List (List Int)} (h : ZzO w B v M) {i k : Nat} {ri rk : List Int} (hi : M[i]? = some ri) (hk : M[k]? = some rk) (hne : i ≠ k) : ∃ go cap gi ci gk ck, v = .slice (some ⟨go, 0, none⟩) M.length cap ∧ B ≤ go ∧ go < w.heap.size ∧
    w.cell? ⟨go, i, none⟩ = some (.slice (some ⟨gi, 0, none⟩) ri.length ci) ∧ w.cell? ⟨go, k, none⟩ = some (.slice (some ⟨gk, 0, none⟩) rk.length ck) ∧
    w.frozen? ⟨go, i, none⟩ = false ∧ (w.setCell ⟨go, i, none⟩ (.slice (some ⟨gk, 0, none⟩) rk.length ck)).frozen? ⟨go, k, none⟩ = false ∧ (w.setCell ⟨go, i, none⟩ (.slice (some ⟨gk, 0, none⟩) rk.length ck)).cell? ⟨go, k, none⟩ = some (.slice (some ⟨gk, 0, none⟩) rk.length ck) ∧
    w.grownBy ((w.setCell ⟨go, i, none⟩ (.slice (some ⟨gk, 0, none⟩) rk.length ck)).setCell ⟨go, k, none⟩ (.slice (some ⟨gi, 0, none⟩) ri.length ci)) (some go) ∧
    ZzO ((w.setCell ⟨go, i, none⟩ (.slice (some ⟨gk, 0, none⟩) rk.length ck)).setCell ⟨go, k, none⟩ (.slice (some ⟨gi, 0, none⟩) ri.length ci)) B v ((M.set i rk).set k ri) := by
  obtain ⟨us, h⟩ := h
  have hlt := (List.getElem?_eq_some_iff.1 hi).1
  have hlk := (List.getElem?_eq_some_iff.1 hk).1
  have hui : us[i]? = some (us[i]'(by rw [h.len]; exact hlt)) := List.getElem?_eq_getElem _
  have huk : us[k]? = some (us[k]'(by rw [h.len]; exact hlk)) := List.getElem?_eq_getElem _
  obtain ⟨gi, ni, ci, ei, hnei⟩ := h.blk i _ hui
  obtain ⟨gk, nk, ck, ek, hnek⟩ := h.blk k _ huk
  rw [ei] at hui
  rw [ek] at huk
  have hzi := h.row i _ ri hui hi
  have hzk := h.row k _ rk huk hk
  have hni : ni = ri.length := by obtain ⟨ts, h1, _⟩ := hzi; exact own_form h1
  have hnk : nk = rk.length := by obtain ⟨ts, h1, _⟩ := hzk; exact own_form h1
  subst hni
  subst hnk
  obtain ⟨m, hm⟩ : ∃ m, M.length = m + 1 := ⟨M.length - 1, by omega⟩
  have hown := h.own
  rw [hm] at hown
  obtain ⟨go, cap, hv⟩ := own_succ hown
  rw [← hm] at hv
  subst hv
  clear hown
  have s1 := h.own.stored i (.slice (some ⟨gk, 0, none⟩) rk.length ck)
  have s2 := s1.1.stored k (.slice (some ⟨gi, 0, none⟩) ri.length ci)
  have hgr := Lib.grownBy_trans s1.2 s2.2
  have c0 := h.own.cells (g := go) rfl i _ hui
  have c1 := h.own.cells (g := go) rfl k _ huk
  have c2 := s1.1.cells (g := go) rfl k _ (by rw [List.getElem?_set_ne hne]; exact huk)
  rw [Addr.add_lit, Nat.zero_add] at c0 c1 c2
  refine ⟨go, cap, gi, ci, gk, ck, rfl, (h.own.lt go rfl).1, (h.own.lt go rfl).2, c0, c1, h.own.frozenAt i, s1.1.frozenAt k, c2, hgr, (us.set i (.slice (some ⟨gk, 0, none⟩) rk.length ck)).set k (.slice (some ⟨gi, 0, none⟩) ri.length ci), ?_⟩
  have kp : ∀ {u : Value} {zs : List Int}, ZsO w B u zs → u.ownBlock ≠ some go → ZsO ((w.setCell ⟨go, i, none⟩ (.slice (some ⟨gk, 0, none⟩) rk.length ck)).setCell ⟨go, k, none⟩ (.slice (some ⟨gi, 0, none⟩) ri.length ci)) B u zs := fun hz hn => ZsO.kept (v := .slice (some ⟨go, 0, none⟩) M.length cap) h.cl hgr hz (.inr hn)
  have hnb : ∀ (j : Nat) u, us[j]? = some u → u.ownBlock ≠ some go := fun j u hu => by
    obtain ⟨g, n, c, e, hne2⟩ := h.blk j u hu
    rw [e]
    exact fun e2 => hne2 (by simp only [Value.ownBlock, Option.some.injEq] at e2; rw [e2]; rfl)
  have hget : ∀ (j : Nat) u, ((us.set i (.slice (some ⟨gk, 0, none⟩) rk.length ck)).set k (.slice (some ⟨gi, 0, none⟩) ri.length ci))[j]? = some u → (j = k ∧ us[i]? = some u) ∨ (j ≠ k ∧ j = i ∧ us[k]? = some u) ∨ (j ≠ k ∧ j ≠ i ∧ us[j]? = some u) := fun j u hu => by
    by_cases e1 : j = k
    · subst e1
      rw [List.getElem?_set_self (by rw [List.length_set, h.len]; exact hlk)] at hu
      exact .inl ⟨rfl, by rw [hui, hu]⟩
    · rw [List.getElem?_set_ne (by omega)] at hu
      by_cases e2 : j = i
      · subst e2
        rw [List.getElem?_set_self (by rw [h.len]; exact hlt)] at hu
        exact .inr (.inl ⟨e1, rfl, by rw [huk, hu]⟩)
      · rw [List.getElem?_set_ne (by omega)] at hu
        exact .inr (.inr ⟨e1, e2, hu⟩)
  refine ⟨?_, ?_, by rw [List.length_set, List.length_set, List.length_set, List.length_set, h.len], fun j u zs hu hz => ?_, fun j u hu => ?_, fun j j2 u u2 hu hu2 hjj => ?_⟩
  · rw [List.length_set, List.length_set]
    exact s2.1
  · intro k2 hk2
    simp only [Value.ownBlock, Option.some.injEq] at hk2
    subst hk2
    obtain ⟨cur0, e0, fr0, hb0, hn0⟩ := h.cl go rfl
    rcases s2.1.2 with ⟨e, _⟩ | ⟨g2, cap2, cur, e, _, hgc, _, hcm, hcs, htk⟩
    · simp at e
    · simp only [Value.slice.injEq, Option.some.injEq, Addr.mk.injEq, and_true, true_and] at e
      obtain ⟨rfl, rfl⟩ := e
      refine ⟨cur, _, _, hgc, ?_⟩
      intro j d2 hj
      have hcell : ((w.setCell ⟨go, i, none⟩ (.slice (some ⟨gk, 0, none⟩) rk.length ck)).setCell ⟨go, k, none⟩ (.slice (some ⟨gi, 0, none⟩) ri.length ci)).cell? ⟨go, j, none⟩ = some (encD d2) := by rw [cell_of_obj' hgc]; exact hj
      have cs : ∀ {u : Value}, ((us.set i (.slice (some ⟨gk, 0, none⟩) rk.length ck)).set k (.slice (some ⟨gi, 0, none⟩) ri.length ci))[j]? = some u → u = encD d2 := fun {u} hu => by
        have := s2.1.cells (g := go) rfl j u hu
        rw [Addr.add_lit, Nat.zero_add, hcell] at this
        exact (Option.some.inj this).symm
      by_cases j1 : j = k
      · have := cs (u := .slice (some ⟨gi, 0, none⟩) ri.length ci) (by rw [j1, List.getElem?_set_self (by rw [List.length_set, h.len]; exact hlk)])
        simp [encD] at this
      · by_cases j0 : j = i
        · have := cs (u := .slice (some ⟨gk, 0, none⟩) rk.length ck) (by rw [List.getElem?_set_ne (by omega), j0, List.getElem?_set_self (by rw [h.len]; exact hlt)])
          simp [encD] at this
        · have hold : w.cell? ⟨go, j, none⟩ = some (encD d2) := by
            rw [← hcell]
            rw [World.cell?_setCell_other, World.cell?_setCell_other]
            all_goals (intro e; simp at e <;> omega)
          rw [cell_of_obj' hb0] at hold
          exact hn0 j d2 hold
  · rcases hget j u hu with ⟨rfl, hu2⟩ | ⟨e1, rfl, hu2⟩ | ⟨e1, e2, hu2⟩
    · rw [List.getElem?_set_self (by rw [List.length_set]; exact hlk)] at hz
      cases hz
      exact kp (h.row i u _ hu2 hi) (hnb i u hu2)
    · rw [List.getElem?_set_ne (by omega), List.getElem?_set_self hlt] at hz
      cases hz
      exact kp (h.row k u _ hu2 hk) (hnb k u hu2)
    · rw [List.getElem?_set_ne (by omega), List.getElem?_set_ne (by omega)] at hz
      exact kp (h.row j u zs hu2 hz) (hnb j u hu2)
  · rcases hget j u hu with ⟨_, hu2⟩ | ⟨_, _, hu2⟩ | ⟨_, _, hu2⟩
    · exact h.blk _ u hu2
    · exact h.blk _ u hu2
    · exact h.blk _ u hu2
  · rcases hget j u hu with ⟨a1, b1⟩ | ⟨a1, a2, b1⟩ | ⟨a1, a2, b1⟩ <;> rcases hget j2 u2 hu2 with ⟨c1', d1⟩ | ⟨c1', c2', d1⟩ | ⟨c1', c2', d1⟩
    · omega
    · exact h.dis i k u u2 b1 d1 hne
    · exact h.dis i j2 u u2 b1 d1 (by omega)
    · exact h.dis k i u u2 b1 d1 (by omega)
    · omega
    · exact h.dis k j2 u u2 b1 d1 (by omega)
    · exact h.dis j i u u2 b1 d1 (by omega)
    · exact h.dis j k u u2 b1 d1 (by omega)
    · exact h.dis j j2 u u2 b1 d1 hjj
def ZzN (w : World) (B : Nat) (v : Value) (M : List (List Int)) (u : Value) : Prop := ∃ us, ZzR w B v us M ∧ (∀ (i : Nat) u', us[i]? = some u' → u'.ownBlock ≠ u.ownBlock) ∧ v.ownBlock ≠ u.ownBlock
theorem ZzO.new {w w' : World} {B g n c : Nat} {v : Value} {M : List (List Int)} {zs : List Int} (h : ZzO w B v M) (hx : Ext w w') (hu : ZsO w' w.heap.size (.slice (some ⟨g, 0, none⟩) n c) zs) : ZzN w' B v M (.slice (some ⟨g, 0, none⟩) n c) := by
  obtain ⟨us, h⟩ := h
  have hg := (hu.lt g rfl).1
  refine ⟨us, ⟨own_ext h.own hx, h.cl.ext hx, h.len, fun i u zs a b => (h.row i u zs a b).ext hx, h.blk, h.dis⟩, fun i u' hi => ?_, fun e => ?_⟩
  · have hlt := (List.getElem?_eq_some_iff.1 hi).1
    have hl := h.len
    have hz := h.row i u' _ hi (List.getElem?_eq_getElem (by omega))
    obtain ⟨g2, n2, c2, e2, _⟩ := h.blk i u' hi
    subst e2
    have := (hz.lt g2 rfl).2
    simp only [Value.ownBlock, ne_eq, Option.some.injEq]
    omega
  · have := (h.own.lt g e).2
    omega
/-- append of an own row -/
theorem wp_appZs {rest : List Oper} {oa : Array Oper} {o : Oper} {a : Act} {Q : Exit → Act → World → Prop} {W : World} {g n c : Nat} (hg : o.guard = none) {sl x : Operand}
    (ho : o.op = .call { callee := .builtin .append, args := #[sl, x], argTypes := #[67, 67] }) {B : Nat} {v : Value} {M : List (List Int)} {zs : List Int} (hO : ZzN W B v M (.slice (some ⟨g, 0, none⟩) n c)) (hz : ZsO W B (.slice (some ⟨g, 0, none⟩) n c) zs)
    (hs : a.eval sl = v) {k : Nat} (hx : a.eval x = .slice (some ⟨k, 0, none⟩) 1 1) (hk : k = W.heap.size) (hlen : M.length ≤ 1000000) (hB : B ≤ W.heap.size)
    (h : ∀ v' w', ZzO w' B v' (M ++ [zs]) → Grew W v w' v' → Clean W v → wpList Tryz.prog oa Q rest (a.put o.dst v') w') : wpList Tryz.prog oa Q (o :: rest) a (W.alloc (.cells #[.slice (some ⟨g, 0, none⟩) n c] 68)) := by
  obtain ⟨us, hR, hd, hv⟩ := hO
  refine wp_app1c hg ho ei_zs zc_qs hR.own hR.cl hs hx hk rfl (by intro d; simp [encD]) (by omega) (by omega) hB ?_
  intro v' w' hown hgrew hclean
  have hgs := (hz.lt g rfl).2
  have hlen := hR.len
  have kp : ∀ {u : Value} {zs : List Int}, ZsO W B u zs → v.ownBlock ≠ u.ownBlock → ZsO w' B u zs := fun hz hn => ZsO.kept hR.cl hgrew.by' hz (.inr fun e => hn e.symm)
  have hblk : ∀ (i : Nat) u, us[i]? = some u → ∃ g n c, u = .slice (some ⟨g, 0, none⟩) n c ∧ v.ownBlock ≠ some g ∧ g < W.heap.size := fun i u hi => by
    obtain ⟨g2, n2, c2, e2, h2⟩ := hR.blk i u hi
    subst e2
    have hlt := (List.getElem?_eq_some_iff.1 hi).1
    have hz2 := hR.row i _ _ hi (List.getElem?_eq_getElem (by omega))
    exact ⟨g2, n2, c2, rfl, h2, (hz2.lt g2 rfl).2⟩
  have hne : ∀ {g2 : Nat}, v.ownBlock ≠ some g2 → g2 < W.heap.size → v'.ownBlock ≠ some g2 := fun h1 h2 => by
    rcases hgrew.blk with e | e
    · rw [e]; exact h1
    · exact fun e2 => by have := e _ e2; omega
  refine h v' w' ⟨us ++ [.slice (some ⟨g, 0, none⟩) n c], ?_, hclean, by simp [hR.len], fun i u z2 hi hz2 => ?_, fun i u hi => ?_, fun i j u u2 hi hj hij => ?_⟩ hgrew hR.cl
  · rw [List.length_append]; exact hown
  · rcases Nat.lt_or_ge i us.length with hlt | hge
    · rw [List.getElem?_append_left (by omega)] at hi hz2
      obtain ⟨g2, n2, c2, e2, h2, h3⟩ := hblk i u hi
      exact kp (hR.row i u z2 hi hz2) (by rw [e2]; exact h2)
    · rw [List.getElem?_append_right (by omega)] at hi hz2
      have e1 : i - us.length = 0 := by have := (List.getElem?_eq_some_iff.1 hi).1; simp at this; omega
      have e2 : i - M.length = 0 := by omega
      rw [e1] at hi
      rw [e2] at hz2
      simp only [List.getElem?_cons_zero, Option.some.injEq] at hi hz2
      subst hi
      subst hz2
      exact kp hz hv
  · rcases Nat.lt_or_ge i us.length with hlt | hge
    · rw [List.getElem?_append_left (by omega)] at hi
      obtain ⟨g2, n2, c2, e2, h2, h3⟩ := hblk i u hi
      exact ⟨g2, n2, c2, e2, hne h2 h3⟩
    · rw [List.getElem?_append_right (by omega)] at hi
      have e1 : i - us.length = 0 := by have := (List.getElem?_eq_some_iff.1 hi).1; simp at this; omega
      rw [e1] at hi
      simp only [List.getElem?_cons_zero, Option.some.injEq] at hi
      subst hi
      exact ⟨g, n, c, rfl, hne hv hgs⟩
  · rcases Nat.lt_or_ge i us.length with hlt | hge <;> rcases Nat.lt_or_ge j us.length with hlt2 | hge2
    · rw [List.getElem?_append_left (by omega)] at hi hj
      exact hR.dis i j u u2 hi hj hij
    · rw [List.getElem?_append_left (by omega)] at hi
      rw [List.getElem?_append_right (by omega)] at hj
      have e1 : j - us.length = 0 := by have := (List.getElem?_eq_some_iff.1 hj).1; simp at this; omega
      rw [e1] at hj
      simp only [List.getElem?_cons_zero, Option.some.injEq] at hj
      subst hj
      exact hd i u hi
    · rw [List.getElem?_append_right (by omega)] at hi
      rw [List.getElem?_append_left (by omega)] at hj
      have e1 : i - us.length = 0 := by have := (List.getElem?_eq_some_iff.1 hi).1; simp at this; omega
      rw [e1] at hi
      simp only [List.getElem?_cons_zero, Option.some.injEq] at hi
      subst hi
      exact fun e => hd j u2 hj e.symm
    · rw [List.getElem?_append_right (by omega)] at hi hj
      have e1 : i - us.length = 0 := by have := (List.getElem?_eq_some_iff.1 hi).1; simp at this; omega
      have e2 : j - us.length = 0 := by have := (List.getElem?_eq_some_iff.1 hj).1; simp at this; omega
      omega
end Go.Proofs.YtnfmknjhkpgppaaGreatDoor
/- plain: elimination without fractions on lists of whole numbers -/
namespace Go.Proofs.YtnfmknjhkpgppaaGreatDoor
set_option linter.unusedVariables false

def atZ (M : List (List Int)) (i j : Nat) : Int := (M.getD i []).getD j 0
def atR (M : List (List Int)) : Nat → Nat → Rat := fun i j => (atZ M i j : Rat)
structure RectZ (M : List (List Int)) (n w : Nat) : Prop where
  len : M.length = n
  wide : ∀ r ∈ M, r.length = w
theorem RectZ.row {M : List (List Int)} {n w i : Nat} (h : RectZ M n w) (hi : i < n) : ∃ r, M[i]? = some r ∧ r.length = w ∧ ∀ j, j < w → r[j]? = some (atZ M i j) := by
  have hl : i < M.length := by rw [h.len]; exact hi
  refine ⟨M[i], List.getElem?_eq_getElem hl, h.wide _ (List.getElem_mem hl), fun j hj => ?_⟩
  have hr := h.wide _ (List.getElem_mem hl)
  unfold atZ
  rw [List.getD_eq_getElem?_getD (l := M), List.getElem?_eq_getElem hl, Option.getD_some, List.getD_eq_getElem?_getD, List.getElem?_eq_getElem (by omega)]
  rfl
theorem atZ_of {M : List (List Int)} {r : List Int} {z : Int} {i j : Nat} (h : M[i]? = some r) (h2 : r[j]? = some z) : atZ M i j = z := by
  unfold atZ
  rw [List.getD_eq_getElem?_getD (l := M), h, Option.getD_some, List.getD_eq_getElem?_getD, h2, Option.getD_some]
/-- two rows change places -/
def swapZ (M : List (List Int)) (i k : Nat) : List (List Int) := (M.set i (M.getD k [])).set k (M.getD i [])
theorem swapZ_of {M : List (List Int)} {i k : Nat} {ri rk : List Int} (hi : M[i]? = some ri) (hk : M[k]? = some rk) : (M.set i rk).set k ri = swapZ M i k := by
  unfold swapZ
  rw [List.getD_eq_getElem?_getD, hk, List.getD_eq_getElem?_getD, hi]
  rfl
theorem getD_set (M : List (List Int)) (i j : Nat) (r : List Int) (hi : i < M.length) : (M.set i r).getD j [] = if j = i then r else M.getD j [] := by
  rw [List.getD_eq_getElem?_getD]
  by_cases e : j = i
  · subst e
    rw [List.getElem?_set_self hi, if_pos rfl]; rfl
  · rw [List.getElem?_set_ne (by omega), if_neg e, List.getD_eq_getElem?_getD]
theorem swapZ_rect {M : List (List Int)} {n w i k : Nat} (h : RectZ M n w) (hi : i < n) (hk : k < n) : RectZ (swapZ M i k) n w := by
  obtain ⟨ri, h1, h2, _⟩ := h.row hi
  obtain ⟨rk, g1, g2, _⟩ := h.row hk
  rw [← swapZ_of h1 g1]
  refine ⟨by rw [List.length_set, List.length_set, h.len], fun r hr => ?_⟩
  rcases List.mem_or_eq_of_mem_set hr with hr | rfl
  · rcases List.mem_or_eq_of_mem_set hr with hr | rfl
    · exact h.wide r hr
    · exact g2
  · exact h2
theorem swapZ_at {M : List (List Int)} {i k : Nat} (hi : i < M.length) (hk : k < M.length) (hne : i ≠ k) : atR (swapZ M i k) = swpR (atR M) k i := by
  funext a b
  show ((atZ _ a b : Int) : Rat) = ((atZ M _ b : Int) : Rat)
  congr 1
  unfold atZ swapZ
  rw [getD_set _ _ _ _ (by rw [List.length_set]; exact hk), getD_set _ _ _ _ hi]
  by_cases e1 : a = k
  · rw [if_pos e1, if_pos e1]
  · rw [if_neg e1, if_neg e1]
    by_cases e2 : a = i
    · rw [if_pos e2, if_pos e2]
    · rw [if_neg e2, if_neg e2]
/-- a row after one step -/
def elimRow (p f d : Int) (r rk : List Int) : List Int := List.zipWith (fun a b => (a * p - f * b).tdiv d) r rk
def elimL (M : List (List Int)) (k c : Nat) (d : Int) : List (List Int) := (List.range M.length).map fun i => if i = k then M.getD k [] else elimRow (atZ M k c) (atZ M i c) d (M.getD i []) (M.getD k [])
theorem elimL_row {M : List (List Int)} {n w k c i : Nat} {d : Int} {r rk : List Int} (h : RectZ M n w) (hi : i < n) (hr : M[i]? = some r) (hrk : M[k]? = some rk) : (elimL M k c d)[i]? = some (if i = k then r else elimRow (atZ M k c) (atZ M i c) d r rk) := by
  unfold elimL
  rw [List.getElem?_map, List.getElem?_range (by rw [h.len]; exact hi), Option.map_some, show M.getD k [] = rk by rw [List.getD_eq_getElem?_getD, hrk]; rfl, show M.getD i [] = r by rw [List.getD_eq_getElem?_getD, hr]; rfl]
  by_cases e : i = k
  · subst e
    rw [if_pos rfl, if_pos rfl]
    rw [hr] at hrk
    cases hrk
    rfl
  · rw [if_neg e, if_neg e]
theorem elimRow_len {p f d : Int} {r rk : List Int} (h : rk.length = r.length) : (elimRow p f d r rk).length = r.length := by unfold elimRow; rw [List.length_zipWith]; omega
theorem elimRow_get {p f d a b : Int} {r rk : List Int} {j : Nat} (h1 : r[j]? = some a) (h2 : rk[j]? = some b) : (elimRow p f d r rk)[j]? = some ((a * p - f * b).tdiv d) := by
  unfold elimRow
  rw [List.getElem?_zipWith, h1, h2]
theorem elimL_rect {M : List (List Int)} {n w k c : Nat} {d : Int} (h : RectZ M n w) (hk : k < n) : RectZ (elimL M k c d) n w := by
  refine ⟨by unfold elimL; rw [List.length_map, List.length_range, h.len], fun r hr => ?_⟩
  obtain ⟨i, hi⟩ := List.mem_iff_getElem?.1 hr
  have hin : i < n := by
    have := (List.getElem?_eq_some_iff.1 hi).1
    unfold elimL at this
    rw [List.length_map, List.length_range, h.len] at this
    exact this
  obtain ⟨ri, h1, h2, _⟩ := h.row hin
  obtain ⟨rk, g1, g2, _⟩ := h.row hk
  rw [elimL_row h hin h1 g1] at hi
  cases hi
  split
  · exact h2
  · rw [elimRow_len (by omega)]; exact h2
theorem elimL_at {M : List (List Int)} {n w k c i j : Nat} {d : Int} (h : RectZ M n w) (hk : k < n) (hi : i < n) (hj : j < w) : atZ (elimL M k c d) i j = if i = k then atZ M k j else (atZ M i j * atZ M k c - atZ M i c * atZ M k j).tdiv d := by
  obtain ⟨ri, h1, h2, h3⟩ := h.row hi
  obtain ⟨rk, g1, g2, g3⟩ := h.row hk
  have e1 := elimL_row (k := k) (c := c) (d := d) h hi h1 g1
  by_cases e : i = k
  · subst e
    rw [if_pos rfl] at e1 ⊢
    exact atZ_of e1 (h3 j hj)
  · rw [if_neg e] at e1 ⊢
    exact atZ_of e1 (elimRow_get (h3 j hj) (g3 j hj))
theorem tdiv_eq {a d z : Int} (hd : d ≠ 0) (h : (a : Rat) / (d : Rat) = (z : Rat)) : a.tdiv d = z := by
  have hd2 : (d : Rat) ≠ 0 := by
    intro e
    exact hd (Rat.intCast_eq_zero_iff.1 e)
  have h2 : (a : Rat) = ((z * d : Int) : Rat) := by
    rw [Rat.intCast_mul, ← h, Rat.div_mul_cancel hd2]
  have h3 : a = z * d := Rat.intCast_inj.1 h2
  rw [h3, Int.mul_tdiv_cancel _ hd]
theorem Red.congr {n w : Nat} {A M M' : Nat → Nat → Rat} {k : Nat} {c : Nat → Nat} {d : Rat} (h : Red n w A M k c d) (he : ∀ i j, i < n → j < w → M' i j = M i j) : Red n w A M' k c d := by
  have hs : ∀ (B : Nat → Rat) j, j < w → sumN (fun t => B t * M' t j) k = sumN (fun t => B t * M t j) k := fun B j hj => sumN_congr _ fun t ht => by rw [he t j (by have := h.kn; omega) hj]
  refine ⟨h.dn, h.dd, fun t i ht hi => by rw [he i _ hi (h.cw t ht)]; exact h.pv t i ht hi, fun i j hi hj => ?_, fun i j h1 h2 h3 => ?_, h.cw, h.kn⟩
  · rw [hs (fun t => A i (c t)) j hj]
    exact h.up i j hi hj
  · rw [hs (fun t => A i (c t)) j h3, he i j h2 h3]
    exact h.lo i j h1 h2 h3
theorem SolX.congr {n w : Nat} {M M' : Nat → Nat → Rat} (he : ∀ i j, i < n → j < w → M' i j = M i j) (x : Nat → Rat) : SolX n w M' x ↔ SolX n w M x := by
  have hr : ∀ i, i < n → rowX w M' x i = rowX w M x i := fun i hi => sumN_congr _ fun j hj => by rw [he i j hi hj]
  exact ⟨fun h i hi => by rw [← hr i hi]; exact h i hi, fun h i hi => by rw [hr i hi]; exact h i hi⟩
theorem RedI.congr {n w : Nat} {A0 M M' : Nat → Nat → Rat} {k : Nat} {c : Nat → Nat} {d : Rat} {neg : Bool} {cur : Nat} (h : RedI n w A0 M k c d neg cur) (hw : cur ≤ w) (he : ∀ i j, i < n → j < w → M' i j = M i j) : RedI n w A0 M' k c d neg cur := by
  obtain ⟨p, h1, h2, h3⟩ := h.ex
  exact ⟨⟨p, h1, h2.congr he, h3⟩, fun x => (SolX.congr he x).trans (h.sol x), h.inc, h.lt, fun j hj hn i a b => by rw [he i j b (by omega)]; exact h.zero j hj hn i a b⟩
theorem RedI.intM {n w : Nat} {A0 : List (List Int)} {M : Nat → Nat → Rat} {k : Nat} {c : Nat → Nat} {d : Rat} {neg : Bool} {cur x : Nat} (h : RedI n w (atR A0) M k c d neg cur) (hA : ∀ i j, i < n → (atZ A0 i j).natAbs ≤ x) (hx : 1 ≤ n * x) {i j : Nat} (hi : i < n) (hj : j < w) :
    ∃ z : Int, M i j = (z : Rat) ∧ z.natAbs ≤ (n * x) ^ n := by
  obtain ⟨p, h1, h2, h3⟩ := h.ex
  exact Red.int (A := fun i j => atZ A0 (p i) j) h2 (fun i j hi => hA _ _ (h1 i hi)) hi hj hx
theorem RedI.intd {n w : Nat} {A0 : List (List Int)} {M : Nat → Nat → Rat} {k : Nat} {c : Nat → Nat} {d : Rat} {neg : Bool} {cur x : Nat} (h : RedI n w (atR A0) M k c d neg cur) (hA : ∀ i j, i < n → (atZ A0 i j).natAbs ≤ x) (hx : 1 ≤ n * x) :
    ∃ z : Int, d = (z : Rat) ∧ z.natAbs ≤ (n * x) ^ n := by
  obtain ⟨p, h1, h2, h3⟩ := h.ex
  exact Red.intD (A := fun i j => atZ A0 (p i) j) h2 (fun i j hi => hA _ _ (h1 i hi)) hx
/-- the run of the elimination on lists -/
structure RedZ (n w x : Nat) (A0 M : List (List Int)) (k : Nat) (c : Nat → Nat) (d : Int) (neg : Bool) (cur : Nat) : Prop where
  inv : RedI n w (atR A0) (atR M) k c (d : Rat) neg cur
  rect : RectZ M n w
  bd : ∀ i j, i < n → (atZ A0 i j).natAbs ≤ x
  hx : 1 ≤ n * x
  cw : cur ≤ w
theorem RedZ.start {n w x : Nat} {A : List (List Int)} (hr : RectZ A n w) (hb : ∀ i j, i < n → (atZ A i j).natAbs ≤ x) (hx : 1 ≤ n * x) (c : Nat → Nat) : RedZ n w x A A 0 c 1 false 0 :=
  ⟨RedI.start n w (atR A) c, hr, hb, hx, Nat.zero_le _⟩
theorem RedZ.num {n w x : Nat} {A0 M : List (List Int)} {k : Nat} {c : Nat → Nat} {d : Int} {neg : Bool} {cur : Nat} (h : RedZ n w x A0 M k c d neg cur) {i j : Nat} (hi : i < n) (hj : j < w) : (atZ M i j).natAbs ≤ (n * x) ^ n := by
  obtain ⟨z, h1, h2⟩ := h.inv.intM h.bd h.hx hi hj
  have : atZ M i j = z := Rat.intCast_inj.1 h1
  rw [this]
  exact h2
theorem RedZ.dnum {n w x : Nat} {A0 M : List (List Int)} {k : Nat} {c : Nat → Nat} {d : Int} {neg : Bool} {cur : Nat} (h : RedZ n w x A0 M k c d neg cur) : d.natAbs ≤ (n * x) ^ n := by
  obtain ⟨z, h1, h2⟩ := h.inv.intd h.bd h.hx
  have : d = z := Rat.intCast_inj.1 h1
  rw [this]
  exact h2
theorem RedZ.dne {n w x : Nat} {A0 M : List (List Int)} {k : Nat} {c : Nat → Nat} {d : Int} {neg : Bool} {cur : Nat} (h : RedZ n w x A0 M k c d neg cur) : d ≠ 0 := fun e => h.inv.dn (by rw [e]; rfl)
theorem RedZ.kn {n w x : Nat} {A0 M : List (List Int)} {k : Nat} {c : Nat → Nat} {d : Int} {neg : Bool} {cur : Nat} (h : RedZ n w x A0 M k c d neg cur) : k ≤ n := h.inv.kn
theorem RedZ.skip {n w x : Nat} {A0 M : List (List Int)} {k : Nat} {c : Nat → Nat} {d : Int} {neg : Bool} {cur : Nat} (h : RedZ n w x A0 M k c d neg cur) (hw : cur < w) (hz : ∀ i, k ≤ i → i < n → atZ M i cur = 0) : RedZ n w x A0 M k c d neg (cur + 1) :=
  ⟨h.inv.skip fun i a b => by show ((atZ M i cur : Int) : Rat) = 0; rw [hz i a b]; rfl, h.rect, h.bd, h.hx, hw⟩
theorem RedZ.swap {n w x : Nat} {A0 M : List (List Int)} {k : Nat} {c : Nat → Nat} {d : Int} {neg : Bool} {cur : Nat} (h : RedZ n w x A0 M k c d neg cur) {i : Nat} (hk : k < i) (hn : i < n) : RedZ n w x A0 (swapZ M i k) k c d (!neg) cur := by
  refine ⟨?_, swapZ_rect h.rect hn (by omega), h.bd, h.hx, h.cw⟩
  rw [swapZ_at (by rw [h.rect.len]; exact hn) (by rw [h.rect.len]; omega) (by omega)]
  exact h.inv.swap hk hn
theorem RedZ.elim {n w x : Nat} {A0 M : List (List Int)} {k : Nat} {c : Nat → Nat} {d : Int} {neg : Bool} {cur : Nat} (h : RedZ n w x A0 M k c d neg cur) (hk : k < n) (hw : cur < w) (hp : atZ M k cur ≠ 0) :
    RedZ n w x A0 (elimL M k cur d) (k + 1) (addC c k cur) (atZ M k cur) neg (cur + 1) := by
  have hpr : atR M k cur ≠ 0 := fun e => hp (Rat.intCast_eq_zero_iff.1 e)
  have h2 := h.inv.elim hk hw hpr
  refine ⟨h2.congr hw fun i j hi hj => ?_, elimL_rect h.rect hk, h.bd, h.hx, hw⟩
  show ((atZ _ i j : Int) : Rat) = _
  rw [elimL_at h.rect hk hi hj]
  unfold elimM
  by_cases e : i = k
  · rw [if_pos e, if_pos e]; rfl
  · rw [if_neg e, if_neg e]
    obtain ⟨z, h3, h4⟩ := h2.intM h.bd h.hx hi hj
    unfold elimM at h3
    rw [if_neg e] at h3
    rw [h3]
    congr 1
    refine tdiv_eq h.dne ?_
    rw [← h3]
    show ((_ - _ : Int) : Rat) / _ = (((atZ M i j : Int) : Rat) * ((atZ M k cur : Int) : Rat) - ((atZ M i cur : Int) : Rat) * ((atZ M k j : Int) : Rat)) / (d : Rat)
    rw [Rat.intCast_sub, Rat.intCast_mul, Rat.intCast_mul]
end Go.Proofs.YtnfmknjhkpgppaaGreatDoor
/- plain: rows of rational numbers made whole; what the end of the elimination says of the rows -/
namespace Go.Proofs.YtnfmknjhkpgppaaGreatDoor
set_option linter.unusedVariables false

/-- the factor of a row -/
def wholeF (r : List Rat) (f : Nat) : Nat := r.foldl (fun f q => f * (q.den / Nat.gcd f q.den)) f
def wholeL (r : List Rat) : List Int := r.map fun q => q.num * ((wholeF r 1 / q.den : Nat) : Int)
theorem mul_gcd_lcm (f d : Nat) : f * (d / Nat.gcd f d) = Nat.lcm f d := by
  unfold Nat.lcm
  rw [Nat.mul_div_assoc _ (Nat.gcd_dvd_right f d)]
theorem wholeF_cons (q : Rat) (t : List Rat) (f : Nat) : wholeF (q :: t) f = wholeF t (f * (q.den / Nat.gcd f q.den)) := rfl
theorem wholeF_snoc (r : List Rat) (q : Rat) (f : Nat) : wholeF (r ++ [q]) f = wholeF r f * (q.den / Nat.gcd (wholeF r f) q.den) := by unfold wholeF; rw [List.foldl_append]; rfl
theorem wholeF_dvd : ∀ (r : List Rat) (f : Nat), f ∣ wholeF r f ∧ ∀ q ∈ r, q.den ∣ wholeF r f
  | [], f => ⟨Nat.dvd_refl _, fun q h => by simp at h⟩
  | q :: t, f => by
    obtain ⟨h1, h2⟩ := wholeF_dvd t (f * (q.den / Nat.gcd f q.den))
    rw [wholeF_cons]
    rw [mul_gcd_lcm] at *
    refine ⟨Nat.dvd_trans (Nat.dvd_lcm_left _ _) h1, fun q2 hq => ?_⟩
    rcases List.mem_cons.1 hq with rfl | hq
    · exact Nat.dvd_trans (Nat.dvd_lcm_right _ _) h1
    · exact h2 q2 hq
theorem wholeF_pos : ∀ (r : List Rat) (f : Nat), 0 < f → 0 < wholeF r f
  | [], f, h => h
  | q :: t, f, h => by
    rw [wholeF_cons, mul_gcd_lcm]
    exact wholeF_pos t _ (Nat.lcm_pos h q.den_pos)
theorem wholeF_lt {k : Nat} : ∀ (r : List Rat) (f j : Nat), f < 10 ^ j → (∀ q ∈ r, q.den < 10 ^ k) → wholeF r f < 10 ^ (j + k * r.length)
  | [], f, j, h, _ => h
  | q :: t, f, j, h, hr => by
    rw [wholeF_cons]
    have h1 : f * (q.den / Nat.gcd f q.den) < 10 ^ (j + k) := by
      have h2 : q.den / Nat.gcd f q.den < 10 ^ k := Nat.lt_of_le_of_lt (Nat.div_le_self _ _) (hr q (List.mem_cons_self ..))
      rw [Nat.pow_add]
      exact Nat.mul_lt_mul'' h h2
    have := wholeF_lt t _ _ h1 fun q2 h2 => hr q2 (List.mem_cons_of_mem _ h2)
    rw [List.length_cons, Nat.mul_succ]
    rwa [show j + (k * t.length + k) = j + k + k * t.length by omega]
theorem whole_mul {q : Rat} {f : Nat} (h : q.den ∣ f) : ((q.num * ((f / q.den : Nat) : Int) : Int) : Rat) = q * (f : Rat) := by
  obtain ⟨g, rfl⟩ := h
  rw [Nat.mul_div_cancel_left _ q.den_pos]
  have h1 : (q.den : Rat) ≠ 0 := by
    intro e
    have := Rat.natCast_eq_zero_iff.1 e
    exact q.den_nz this
  have h2 : q * (q.den : Rat) = (q.num : Rat) := by
    have h4 := Rat.num_divInt_den q
    rw [Rat.divInt_eq_div, Rat.intCast_natCast] at h4
    have h3 : (q.num : Rat) / (q.den : Rat) * (q.den : Rat) = (q.num : Rat) := Rat.div_mul_cancel h1
    rwa [h4] at h3
  rw [Rat.intCast_mul, Rat.natCast_mul, ← Rat.mul_assoc, h2]
  rfl
theorem wholeL_at {r : List Rat} {j : Nat} : (((wholeL r).getD j 0 : Int) : Rat) = r.getD j 0 * (wholeF r 1 : Rat) := by
  unfold wholeL
  rw [List.getD_eq_getElem?_getD, List.getElem?_map, List.getD_eq_getElem?_getD]
  cases h : r[j]? with
  | none =>
    show ((0 : Int) : Rat) = 0 * _
    rw [Rat.zero_mul]; rfl
  | some q => exact whole_mul ((wholeF_dvd r 1).2 q (List.mem_of_getElem? h))
theorem wholeL_len (r : List Rat) : (wholeL r).length = r.length := by unfold wholeL; rw [List.length_map]
/-- the matrix that the elimination starts from -/
def wholeM (rows : List (List Rat)) : List (List Int) := rows.map wholeL
def facM (rows : List (List Rat)) : Nat → Rat := fun i => (wholeF (rows.getD i []) 1 : Rat)
theorem facM_ne (rows : List (List Rat)) (i : Nat) : facM rows i ≠ 0 := by
  unfold facM
  intro e
  have := Rat.natCast_eq_zero_iff.1 e
  have := wholeF_pos (rows.getD i []) 1 (by omega)
  omega
theorem wholeM_at {rows : List (List Rat)} {i j : Nat} (hi : i < rows.length) : atR (wholeM rows) i j = facM rows i * atL rows i j := by
  show ((atZ (wholeM rows) i j : Int) : Rat) = _
  unfold atZ wholeM facM atL
  rw [List.getD_eq_getElem?_getD (l := rows.map wholeL), List.getElem?_map, List.getD_eq_getElem?_getD (l := rows), List.getElem?_eq_getElem hi]
  show (((wholeL rows[i]).getD j 0 : Int) : Rat) = (wholeF rows[i] 1 : Rat) * rows[i].getD j 0
  rw [wholeL_at, Rat.mul_comm]
theorem wholeM_rect {rows : List (List Rat)} {n k : Nat} (h : Rect rows n k) : RectZ (wholeM rows) n k := by
  refine ⟨by unfold wholeM; rw [List.length_map, h.len], fun r hr => ?_⟩
  unfold wholeM at hr
  obtain ⟨s, hs, rfl⟩ := List.mem_map.1 hr
  rw [wholeL_len]
  exact h.wide s hs
def prodN : (Nat → Rat) → Nat → Rat
  | _, 0 => 1
  | f, n + 1 => f 0 * prodN (fun i => f (i + 1)) n
theorem prodN_ne : ∀ (n : Nat) (f : Nat → Rat), (∀ i, f i ≠ 0) → prodN f n ≠ 0
  | 0, f, _ => by unfold prodN; decide
  | n + 1, f, h => by
    unfold prodN
    intro e
    rcases Rat.mul_eq_zero.1 e with e | e
    · exact h 0 e
    · exact prodN_ne n _ (fun i => h (i + 1)) e
theorem det_scale : ∀ (n : Nat) (F : Nat → Rat) (A : Nat → Nat → Rat), det n (fun i j => F i * A i j) = prodN F n * det n A
  | 0, F, A => (Rat.one_mul 1).symm
  | n + 1, F, A => by
    rw [det, det, prodN, ← sumN_mul]
    refine sumN_congr _ fun k hk => ?_
    have := det_scale n (fun i => F (i + 1)) (minr A k)
    have e : minr (fun i j => F i * A i j) k = fun i j => F (i + 1) * minr A k i j := rfl
    rw [e, this]
    grind
/-- the determinant at the end of the elimination -/
theorem RedZ.det1 {n w x : Nat} {rows : List (List Rat)} {M : List (List Int)} {c : Nat → Nat} {d : Int} {neg : Bool} {cur : Nat} (h : RedZ n w x (wholeM rows) M n c d neg cur) (hr : Rect rows n n) (hm : cur ≤ n) :
    (((if neg = true then - d else d : Int)) : Rat) / prodN (facM rows) n = detL n rows := by
  have h1 := h.inv.det1 hm
  rw [det_congr n _ (fun i j => facM rows i * atL rows i j) fun i j hi hj => wholeM_at (by rw [hr.len]; exact hi), det_scale] at h1
  rw [detL_eq n rows hr]
  have hp := prodN_ne n (facM rows) (facM_ne rows)
  have h2 : ((if neg = true then - d else d : Int) : Rat) = prodN (facM rows) n * det n (atL rows) := by
    rw [h1]
    cases neg
    · rfl
    · show ((-d : Int) : Rat) = - (d : Rat)
      exact Rat.intCast_neg d
  rw [h2, Rat.mul_comm, Rat.mul_div_cancel hp]
theorem RedZ.det0 {n w x k : Nat} {rows : List (List Rat)} {M : List (List Int)} {c : Nat → Nat} {d : Int} {neg : Bool} {cur : Nat} (h : RedZ n w x (wholeM rows) M k c d neg cur) (hr : Rect rows n n) (hw : n ≤ w) (hm : cur ≤ n) (hcur : cur = n ∨ k = n) (hk : k < n) : detL n rows = 0 := by
  have h1 := h.inv.det0 hw hm hcur hk
  rw [det_congr n _ (fun i j => facM rows i * atL rows i j) fun i j hi hj => wholeM_at (by rw [hr.len]; exact hi), det_scale] at h1
  rw [detL_eq n rows hr]
  rcases Rat.mul_eq_zero.1 h1 with h2 | h2
  · exact absurd h2 (prodN_ne n _ (facM_ne rows))
  · exact h2
/-- solutions of the whole rows are those of the rows -/
theorem solS_iff {n m : Nat} {rows : List (List Rat)} (hr : rows.length = n) (y : Nat → Rat) : SolS n m (atR (wholeM rows)) y ↔ SolL m rows y := by
  have key : ∀ i, i < n → (sumN (fun j => atR (wholeM rows) i j * y j) m = atR (wholeM rows) i m ↔ sumN (fun j => atL rows i j * y j) m = atL rows i m) := by
    intro i hi
    have e1 : sumN (fun j => atR (wholeM rows) i j * y j) m = facM rows i * sumN (fun j => atL rows i j * y j) m := by
      rw [← sumN_mul]
      exact sumN_congr _ fun j hj => by rw [wholeM_at (by omega)]; grind
    rw [e1, wholeM_at (by omega)]
    have hf := facM_ne rows i
    constructor
    · intro h
      grind
    · intro h; rw [h]
  constructor
  · intro h r hrm
    obtain ⟨i, hi⟩ := List.mem_iff_getElem?.1 hrm
    have hlt := (List.getElem?_eq_some_iff.1 hi).1
    have := (key i (by omega)).1 (h i (by omega))
    unfold atL at this
    rw [List.getD_eq_getElem?_getD, hi] at this
    exact this
  · intro h i hi
    refine (key i hi).2 ?_
    have hlt : i < rows.length := by omega
    have := h rows[i] (List.getElem_mem hlt)
    unfold atL
    rw [List.getD_eq_getElem?_getD, List.getElem?_eq_getElem hlt]
    exact this
theorem RedZ.sysGood {n m x : Nat} {rows : List (List Rat)} {M : List (List Int)} {c : Nat → Nat} {d : Int} {neg : Bool} {cur : Nat} (h : RedZ n (m + 1) x (wholeM rows) M m c d neg cur) (hr : rows.length = n) (hcur : cur ≤ m) (hz : ∀ i, m ≤ i → i < n → atZ M i m = 0) :
    sysL m rows = some ((List.range m).map fun t => (atZ M t m : Rat) / (d : Rat)) := by
  have hg := fun y => h.inv.good hcur (fun i a b => by show ((atZ M i m : Int) : Rat) = 0; rw [hz i a b]; rfl) y
  have key : ∀ y, SolL m rows y ↔ ∀ t, t < m → y t = (atZ M t m : Rat) / (d : Rat) := fun y => by rw [← solS_iff hr]; exact hg y
  let y0 : Nat → Rat := fun t => (atZ M t m : Rat) / (d : Rat)
  have hy0 : SolL m rows y0 := (key y0).2 fun t ht => rfl
  cases hs : sysL m rows with
  | none =>
    obtain ⟨z, h1, j, h2, h3⟩ := sysL_none m rows hs y0 hy0
    exact absurd ((key z).1 h1 j h2) h3
  | some xs =>
    have hl := sysL_len m rows xs hs
    have h2 := (sysL_some m rows xs hs y0).1 hy0
    congr 1
    apply List.ext_getElem?
    intro i
    by_cases hi : i < m
    · rw [List.getElem?_map, List.getElem?_range hi]
      have := h2 i hi
      rw [List.getD_eq_getElem?_getD, List.getElem?_eq_getElem (by omega)] at this
      rw [List.getElem?_eq_getElem (by omega)]
      show some _ = some _
      congr 1
      exact this.symm
    · rw [List.getElem?_eq_none (by omega), List.getElem?_eq_none (by rw [List.length_map, List.length_range]; omega)]
theorem RedZ.sysNone {n m x k : Nat} {rows : List (List Rat)} {M : List (List Int)} {c : Nat → Nat} {d : Int} {neg : Bool} {cur : Nat} (h : RedZ n (m + 1) x (wholeM rows) M k c d neg cur) (hr : rows.length = n) (hcur : cur = m ∨ k = n) {i : Nat} (hi : k ≤ i) (hin : i < n) (hne : atZ M i m ≠ 0) :
    sysL m rows = none := by
  cases hs : sysL m rows with
  | none => rfl
  | some xs =>
    have h1 := (sysL_some m rows xs hs fun j => xs.getD j 0).2 fun j _ => rfl
    exact absurd ((solS_iff hr _).2 h1) (h.inv.none hcur hi hin (fun e => hne (Rat.intCast_eq_zero_iff.1 e)) _)
theorem RedZ.sysMany {n m x k : Nat} {rows : List (List Rat)} {M : List (List Int)} {c : Nat → Nat} {d : Int} {neg : Bool} {cur : Nat} (h : RedZ n (m + 1) x (wholeM rows) M k c d neg cur) (hr : rows.length = n) (hcm : cur ≤ m) (hcur : cur = m ∨ k = n) (hk : k < m) :
    sysL m rows = none := by
  cases hs : sysL m rows with
  | none => rfl
  | some xs =>
    have hu := sysL_some m rows xs hs
    have h1 := (hu fun j => xs.getD j 0).2 fun j _ => rfl
    obtain ⟨y, ⟨f, hf, hy⟩, hy2⟩ := h.inv.many (m := m) (by omega) (fun t ht => by have := h.inv.lt t ht; omega) hcur hk
    have h2 := (solS_iff hr _).2 h1
    have h3 : SolS n m (atR (wholeM rows)) fun j => xs.getD j 0 + y j := fun i hi => by
      have a := h2 i hi
      have b := hy2 i hi
      have e : sumN (fun j => atR (wholeM rows) i j * (xs.getD j 0 + y j)) m = 1 * sumN (fun j => atR (wholeM rows) i j * xs.getD j 0) m + 1 * sumN (fun j => atR (wholeM rows) i j * y j) m := by
        rw [← sumN_lin]
        exact sumN_congr _ fun j hj => by grind
      rw [e, a, b]
      grind
    have h4 := (hu _).1 ((solS_iff hr _).1 h3) f hf
    exact absurd (by grind) hy
end Go.Proofs.YtnfmknjhkpgppaaGreatDoor
/- walks: big.Int.Exact, matrix.whole -/
namespace Go.Proofs.YtnfmknjhkpgppaaGreatDoor
open Go.RowKit
set_option linter.unusedVariables false

theorem exact_sg (y z : Int) : sg (decide (y < 0) != decide (z < 0)) (y.natAbs / z.natAbs) = y.tdiv z := by
  have hp : ∀ m : Nat, decide (Int.ofNat m < 0) = false := fun m => decide_eq_false (by show ¬ ((m : Nat) : Int) < 0; omega)
  have hn : ∀ m : Nat, decide (Int.negSucc m < 0) = true := fun m => decide_eq_true (Int.negSucc_lt_zero m)
  cases y with
  | ofNat m => cases z with
    | ofNat n => rw [hp, hp]; rfl
    | negSucc n => rw [hp, hn]; rfl
  | negSucc m => cases z with
    | ofNat n => rw [hp, hn]; rfl
    | negSucc n => rw [hn, hn]; rfl

set_option maxHeartbeats 1600000 in
set_option maxRecDepth 100000 in
theorem intExact_any (u v : Value) (y z : Int) (w : World) (hu : IntV w u y) (hv : IntV w v z) (hz : z ≠ 0) (hl : (dig y.natAbs).length ≤ 1073741823) :
    Calls Tryz.prog 62 #[u, v] w fun e w' => ∃ r, e = .returned r ∧ IntV w' r (y.tdiv z) ∧ Ext w w' := by
  obtain ⟨q, ao, l, c, rfl, HQ, HL, HA⟩ := hu.opn
  obtain ⟨q2, ao2, l2, c2, rfl, HQ2, HL2, HA2⟩ := hv.opn
  have hsg : sg (q != q2) (y.natAbs / z.natAbs) = y.tdiv z := by rw [HQ.out, HQ2.out]; exact exact_sg y z
  have HD := Lib.hid (fun W (hx : Ext w W) => div_any (.slice ao l c) (.slice ao2 l2 c2) y.natAbs z.natAbs W (HA.out W hx) (HA2.out W hx) (by omega) hl)
  unfold DivPost at HD
  obtain ⟨nn, hnn⟩ : ∃ nn, y.natAbs / z.natAbs = nn := ⟨_, rfl⟩
  rw [hnn] at hsg HD
  have HM := Lib.hid (fun (a : Value) W (ha : NatV W a nn) => by
    have := made_any (q != q2) a nn W ha
    rw [hsg] at this
    exact this)
  clear hu hv hsg hnn
  go_enter Tryz.func62, Tryz.ntmps62
  go_wp2_with fail
  obtain ⟨W3, hW3⟩ : ∃ W3, ((w.alloc (.cells #[.bool q, .slice ao l c] 58)).alloc (.cells #[.bool q2, .slice ao2 l2 c2] 58)).alloc (.cells #[.bool false, .slice none 0 0] 58) = W3 := ⟨_, rfl⟩
  have HRES := Lib.hid (fun w2 (X : Ext W3 w2) => res2 (w := w) (w2 := w2) (g := w.heap.size + 2) (t := 58) (by simp) (((Ext.refl w).alloc (.cells #[.bool q, .slice ao l c] 58)).alloc (.cells #[.bool q2, .slice ao2 l2 c2] 58)) (by rw [hW3]; exact X))
  have k1 : W3.cell? ⟨w.heap.size, 0, none⟩ = some (.bool q) := by rw [← hW3]; simp [go_sem]
  have k3 : W3.cell? ⟨w.heap.size + 1, 0, none⟩ = some (.bool q2) := by rw [← hW3]; simp [go_sem]
  have HX : Ext w W3 := by rw [← hW3]; exact (((Ext.refl w).alloc _).alloc _).alloc _
  rw [hW3]
  clear hW3
  refine (HD.out _ HX).mono ?_
  rintro e w4 ⟨qv, rv, rfl, hq, hr, X4⟩
  obtain ⟨qao, ql, qc, rfl, _, HQV⟩ := hq.opn
  have j1 := X4.cell k1
  have j3 := X4.cell k3
  clear hq hr k1 k3
  go_wp2_with fail
  refine (HM.out _ _ HQV.out).mono ?_
  rintro e w6 ⟨u, rfl, hu, Y6⟩
  have X6 : Ext W3 w6 := X4.trans Y6
  obtain ⟨q6, ao6, l6, c6, rfl, _, _, _⟩ := hu.opn
  have R := HRES.out _ X6
  have f0 := R.f0
  have c0 := R.c0
  have f1 := R.f1
  have c1 := R.c1
  have R := Lib.hid R
  have HU := Lib.hid hu
  clear hu j1 j3
  go_wp2_with fail
  refine bodyPost_ret (v := .agg #[.bool q6, .slice ao6 l6 c6]) (by simp [results, Tryz.results62, go_sem, R.out.d0, R.out.d1]) rfl ?_
  exact ⟨_, rfl, R.out.int _ _ HU.out, R.out.ext _ _⟩

theorem intV_nat {w : World} {ao : Option Addr} {l c k : Nat} (h : NatV w (.slice ao l c) k) (hl : l = (dig k).length) : IntV w (.agg #[.bool false, .slice ao l c]) (k : Int) :=
  ⟨false, ao, l, c, rfl, (decide_eq_false (by omega)).symm, by rw [Int.natAbs_natCast]; exact hl, by rw [Int.natAbs_natCast]; exact h⟩

set_option maxHeartbeats 3200000 in
set_option maxRecDepth 100000 in
theorem whole_row (v : Value) (qs : List Rat) (w : World) (hv : QsV w v qs) (hn : qs.length ≤ 1000) (hq : ∀ q ∈ qs, RB 2000 q) :
    Calls Tryz.prog 31 #[v] w fun e w' => ∃ u f, e = .returned (.tuple #[u, f]) ∧ ZsO w' w.heap.size u (wholeL qs) ∧ NatV w' f (wholeF qs 1) ∧ Ext w w' := by
  obtain ⟨ao, c, rfl, hlen, hC⟩ := hv.opn
  have HC := Lib.hid hC
  have HBF : Hid (∀ i, (dig (wholeF (qs.take i) 1)).length ≤ 100000000) := fun i => by
    have := wholeF_lt (k := 2000) (qs.take i) 1 1 (by decide) fun q h => (hq q (List.mem_of_mem_take h)).2
    refine dig_le10 this ?_
    have h2 : (qs.take i).length ≤ 1000 := by rw [List.length_take]; omega
    omega
  have HBQ : Hid (∀ q ∈ qs, (dig q.num.natAbs).length ≤ 100000000 ∧ (dig q.den).length ≤ 100000000) := fun q h => RB_QB (hq q h) (by omega)
  have HF0 := Lib.hid (fun W => small_any 1 W (by omega))
  have HWL : Hid ((wholeL qs).length = qs.length) := wholeL_len qs
  have HWG : Hid (∀ (i : Nat) q, qs[i]? = some q → (wholeL qs)[i]? = some (q.num * ((wholeF qs 1 / q.den : Nat) : Int))) := fun i q h => by
    unfold wholeL
    rw [List.getElem?_map, h]; rfl
  have HFA : Hid ((dig (wholeF qs 1)).length ≤ 100000000) := by
    have := HBF.out qs.length
    rwa [List.take_length] at this
  obtain ⟨n, hn2⟩ : ∃ n, qs.length = n := ⟨_, rfl⟩
  have HN := Lib.hid hn2
  rw [hn2] at hn HWL
  rw [hn2] at hlen ⊢
  obtain ⟨f, hfe⟩ : ∃ f, wholeF qs 1 = f := ⟨_, rfl⟩
  rw [hfe] at HWG HFA ⊢
  have HFE := Lib.hid hfe
  obtain ⟨wo, rfl⟩ : ∃ wo : World, wo = w := ⟨_, rfl⟩
  clear hv hC hq hn2 hlen hfe
  go_enter Tryz.func31, Tryz.ntmps31
  go_wp2_with fail
  refine (HF0.out _).mono ?_
  rintro e w1 ⟨f1, rfl, hf1, X1⟩
  have HF1 := Lib.hid hf1
  clear hf1
  go_wp2_with fail
  go_loopw [4, 18] (fun fv iv wr => ∃ (i : Nat), i ≤ n ∧ iv = .int .i64 i ∧ Hid (NatV wr fv (wholeF (qs.take i) 1)) ∧ Ext wo wr) (fun _ iv _ => n - (intOf iv).toNat)
  case atStart => exact ⟨0, Nat.zero_le _, rfl, by show NatV _ _ _; rw [List.take_zero]; exact HF1.out, X1⟩
  case round =>
    clear X1 HF1
    obtain ⟨i, hi, rfl, HF, X⟩ := hrel
    by_cases hlt : i < n
    · obtain ⟨q, d1, _, d3⟩ := get_lt (xs := qs) (k := i) (by rw [HN.out]; exact hlt)
      obtain ⟨g, s, a, l, cc, b, m, d, rfl, c0, c1, c2, hQ⟩ := HC.out i q d1.out
      obtain ⟨s9, a9, l9, cc9, b9, m9, d9, e, hI, hm, hD⟩ := hQ
      simp only [Value.agg.injEq, Array.mk.injEq, List.cons.injEq, Value.bool.injEq, Value.slice.injEq, and_true] at e
      obtain ⟨rfl, ⟨rfl, rfl, rfl⟩, rfl, rfl, rfl⟩ := e
      have hb := HBQ.out q (List.mem_of_getElem? d1.out)
      have hbf := HBF.out i
      obtain ⟨fo, fl, fc, rfl, _, HFV⟩ := HF.out.opn
      have HFN : Hid (wholeF (qs.take (i + 1)) 1 = wholeF (qs.take i) 1 * (q.den / Nat.gcd (wholeF (qs.take i) 1) q.den)) := by show _ = _; rw [d3.out, wholeF_snoc]
      have hdp := q.den_pos
      obtain ⟨D, hDe⟩ : ∃ D, q.den = D := ⟨_, rfl⟩
      rw [hDe] at hD hb HFN hdp
      generalize wholeF (qs.take i) 1 = f0 at *
      have HDV := Lib.hid (hD.ext X)
      have hg0 : 0 < Nat.gcd f0 D := Nat.gcd_pos_of_pos_right _ hdp
      have HG := Lib.hid (fun W (hx : Ext wr W) => gcd_any (.slice fo fl fc) (.slice b m d) f0 D W (HFV.out.ext hx) (HDV.out.ext hx) (by omega) (by omega))
      obtain ⟨G, hG⟩ : ∃ G, Nat.gcd f0 D = G := ⟨_, rfl⟩
      rw [hG] at HG HFN hg0
      have HDI := Lib.hid (fun (a : Value) W (hx : Ext wr W) (ha : NatV W a G) => div_any (.slice b m d) a D G W (HDV.out.ext hx) ha hg0 (by omega))
      unfold DivPost at HDI
      have hdl : (dig (D / G)).length ≤ 100000000 := Nat.le_trans (dig_len_le (Nat.div_le_self _ _)) hb.2
      have HMU := Lib.hid (fun (a : Value) W (hx : Ext wr W) (ha : NatV W a (D / G)) => mul_any (.slice fo fl fc) a f0 (D / G) W (HFV.out.ext hx) ha (by omega) (by omega))
      have hki : (i : Int) < (n : Int) := by omega
      have k0 := X.cell c0
      have k1 := X.cell c1
      have k2 := X.cell c2
      obtain ⟨T7, hT7⟩ : ∃ T7, wr.heap.size = T7 := ⟨_, rfl⟩
      obtain ⟨W3, hW3⟩ : ∃ W3, wr.alloc (.cells #[.bool s, .slice a l cc, .slice b m d] 60) = W3 := ⟨_, rfl⟩
      have XL : Ext wr W3 := by rw [← hW3]; exact (Ext.refl wr).alloc _
      have p2 : W3.cell? ⟨T7, 2, none⟩ = some (.slice b m d) := by rw [← hW3, ← hT7]; simp [go_sem]
      clear hm hI hD hb hbf d1 d3 hDe hG hdl hlt c0 c1 c2 HF
      go_wp2_with fail
      clear hT7 hW3
      refine (HG.out _ XL).mono ?_
      rintro e w4 ⟨gv, rfl, hg, X4⟩
      obtain ⟨go, gl, gc, rfl, _, HGV⟩ := hg.opn
      have j2 := X4.cell p2
      clear hg p2
      go_wp2_with fail
      refine (HDI.out _ _ (XL.trans X4) HGV.out).mono ?_
      rintro e w5 ⟨dv, rv, rfl, hdv, hrv, X5⟩
      obtain ⟨do', dl, dc, rfl, _, HDD⟩ := hdv.opn
      obtain ⟨ro', rl, rc, rfl, _, _⟩ := hrv.opn
      clear hdv hrv j2
      go_wp2_with fail
      refine (HMU.out _ _ ((XL.trans X4).trans X5) HDD.out).mono ?_
      rintro e w6 ⟨mv, rfl, hmv, X6⟩
      have HMV : Hid (NatV w6 mv (wholeF (qs.take (i + 1)) 1)) := by show NatV _ _ _; rw [HFN.out]; exact hmv
      have XN := X.trans (((XL.trans X4).trans X5).trans X6)
      clear hmv
      go_wp2_with fail
      go_roundw
      case rel => exact ⟨i + 1, by omega, by go_num, HMV, XN⟩
      case measure => simp [intOf] <;> omega
    · have hin : n = i := by omega
      have hf := HF.out
      rw [← hin, ← HN.out, List.take_length, HFE.out] at hf
      obtain ⟨fo, fl, fc, rfl, _, _⟩ := hf.opn
      have HFV := Lib.hid hf
      have XA := X
      have hfa := HFA.out
      clear hin hf HF X hi HFA
      obtain ⟨w2, rfl⟩ : ∃ w2 : World, w2 = wr := ⟨_, rfl⟩
      go_wp2_with fail
      go_loopw [10, 39] (fun ov iv wr => ∃ (i : Nat), i ≤ n ∧ iv = .int .i64 i ∧ Hid (ZsO wr wo.heap.size ov ((wholeL qs).take i)) ∧ Hid (NatV wr (.slice fo fl fc) f) ∧ Ext wo wr) (fun _ iv _ => n - (intOf iv).toNat)
      case atStart => exact ⟨0, Nat.zero_le _, rfl, ZsO.nil _ _, HFV, XA⟩
      case round =>
        clear HFV XA
        obtain ⟨i, hi, rfl, HO, HFV, X⟩ := hrel
        by_cases hlt : i < n
        · obtain ⟨q, d1, _, d3⟩ := get_lt (xs := qs) (k := i) (by rw [HN.out]; exact hlt)
          obtain ⟨g, s, a, l, cc, b, m, d, rfl, c0, c1, c2, hQ⟩ := HC.out i q d1.out
          obtain ⟨s9, a9, l9, cc9, b9, m9, d9, e, hI, hm, hD⟩ := hQ
          simp only [Value.agg.injEq, Array.mk.injEq, List.cons.injEq, Value.bool.injEq, Value.slice.injEq, and_true] at e
          obtain ⟨rfl, ⟨rfl, rfl, rfl⟩, rfl, rfl, rfl⟩ := e
          have hb := HBQ.out q (List.mem_of_getElem? d1.out)
          have hdp := q.den_pos
          have HTJ : Hid ((wholeL qs).take (i + 1) = (wholeL qs).take i ++ [q.num * ((f / q.den : Nat) : Int)]) := by
            show _ = _
            obtain ⟨h2, h3⟩ := List.getElem?_eq_some_iff.1 (HWG.out i q d1.out)
            rw [List.take_succ_eq_append_getElem h2, h3]
          have HTL : Hid (((wholeL qs).take i).length ≤ 1000000) := by show _ ≤ _; rw [List.length_take]; omega
          generalize (wholeL qs).take i = L1 at *
          have HDV := Lib.hid (hD.ext X)
          have HIV := Lib.hid (hI.ext X)
          have HDI := Lib.hid (fun W (hx : Ext wr W) => div_any (.slice fo fl fc) (.slice b m d) f q.den W (HFV.out.ext hx) (HDV.out.ext hx) hdp (by omega))
          unfold DivPost at HDI
          have hdl : (dig (f / q.den)).length ≤ 100000000 := Nat.le_trans (dig_len_le (Nat.div_le_self _ _)) hfa
          obtain ⟨K, hK⟩ : ∃ K, f / q.den = K := ⟨_, rfl⟩
          rw [hK] at HDI HTJ hdl
          have HMU := Lib.hid (fun (a2 : Value) W (hx : Ext wr W) (ha : IntV W a2 (K : Int)) => intMul_any (.agg #[.bool s, .slice a l cc]) a2 q.num (K : Int) W (HIV.out.ext hx) ha (by omega) (by rw [Int.natAbs_natCast]; omega))
          generalize q.num * (K : Int) = Z at *
          have hki : (i : Int) < (n : Int) := by omega
          have k0 := X.cell c0
          have k1 := X.cell c1
          have k2 := X.cell c2
          obtain ⟨T7, hT7⟩ : ∃ T7, wr.heap.size = T7 := ⟨_, rfl⟩
          obtain ⟨W3, hW3⟩ : ∃ W3, wr.alloc (.cells #[.bool s, .slice a l cc, .slice b m d] 60) = W3 := ⟨_, rfl⟩
          have XL : Ext wr W3 := by rw [← hW3]; exact (Ext.refl wr).alloc _
          have p0 : W3.cell? ⟨T7, 0, none⟩ = some (.bool s) := by rw [← hW3, ← hT7]; simp [go_sem]
          have p1 : W3.cell? ⟨T7, 1, none⟩ = some (.slice a l cc) := by rw [← hW3, ← hT7]; simp [go_sem]
          have p2 : W3.cell? ⟨T7, 2, none⟩ = some (.slice b m d) := by rw [← hW3, ← hT7]; simp [go_sem]
          clear hm hI hD hb d1 d3 hK hdl hlt c0 c1 c2 hdp
          go_wp2_with fail
          clear hT7 hW3
          refine (HDI.out _ XL).mono ?_
          rintro e w5 ⟨dv, rv, rfl, hdv, hrv, X5⟩
          obtain ⟨do', dl, dc, rfl, hdl, HDD⟩ := hdv.opn
          obtain ⟨ro', rl, rc, rfl, _, _⟩ := hrv.opn
          have HKI := Lib.hid (intV_nat HDD.out hdl.out)
          have j0 := X5.cell p0
          have j1 := X5.cell p1
          clear hdv hrv p0 p1 p2 hdl
          go_wp2_with fail
          refine (HMU.out _ _ (XL.trans X5) HKI.out).mono ?_
          rintro e w6 ⟨mv, rfl, hmv, X6⟩
          obtain ⟨s6, a6, l6, c6, rfl, _, _, _⟩ := hmv.opn
          have YN := (XL.trans X5).trans X6
          have XN := X.trans YN
          have HO4 := HO.out.ext YN
          have hsz : wo.heap.size ≤ w6.heap.size := XN.size
          have HMV := Lib.hid hmv
          clear hmv j0 j1
          go_wp2_with (at_builtin; refine wp_appZ (sl := .tmp 50) (x := .tmp 56) rfl rfl HO4 HMV.out rfl rfl rfl HTL.out hsz ?_; intro v' w' hown hgrew hclean)
          have HE := Lib.hid (HO4.grew hgrew XN (Nat.le_refl _))
          have HF7 := Lib.hid (hclean.kept hgrew.by' (HFV.out.ext YN))
          rw [← HTJ.out] at hown
          have HOW := Lib.hid hown
          go_roundw
          case rel => exact ⟨i + 1, by omega, by go_num, HOW, HF7, HE.out⟩
          case measure => simp [intOf] <;> omega
        · have hin : n = i := by omega
          have ho := HO.out
          rw [← hin, ← HWL.out, List.take_length] at ho
          obtain ⟨ts, h1, _⟩ := id ho
          have HZ := Lib.hid ho
          clear h1 hin ho HO
          go_wp2_with fail
          go_ret2
          exact ⟨_, _, rfl, HZ.out, HFV.out, X⟩
end Go.Proofs.YtnfmknjhkpgppaaGreatDoor
/- rows of whole numbers below a border; a block of five cells: store -/
namespace Go.Proofs.YtnfmknjhkpgppaaGreatDoor
open Go.RowKit
set_option linter.unusedVariables false

/-- a store of a cell that is no digit leaves the block without digits -/
theorem clean_set {w : World} {B g n cap k s : Nat} {e : TypeId} {xs : List Value} (h : w.ownsRow B e s (.slice (some ⟨g, 0, none⟩) n cap) n xs) (hc : Clean w (.slice (some ⟨g, 0, none⟩) n cap)) {j : Nat} (hj : j < xs.length) {a : Value} (ha : ∀ d : Nat, a ≠ encD d) :
    Clean (w.setCell ⟨g, j, none⟩ a) (.slice (some ⟨g, 0, none⟩) n cap) := by
  have hrow := (h.stored j a).1
  intro k hk
  simp only [Value.ownBlock, Option.some.injEq] at hk
  subst hk
  rcases hrow.2 with ⟨e, _⟩ | ⟨g2, cap2, cur, e, _, hgc, _, hcm, hcs, htk⟩
  · simp at e
  · simp only [Value.slice.injEq, Option.some.injEq, Addr.mk.injEq, and_true, true_and] at e
    obtain ⟨rfl, rfl⟩ := e
    refine ⟨cur, _, _, hgc, ?_⟩
    obtain ⟨cur0, e0, fr0, hb0, hn0⟩ := hc g rfl
    intro i d hi
    have hcell : (w.setCell ⟨g, j, none⟩ a).cell? ⟨g, i, none⟩ = some (encD d) := by rw [cell_of_obj' hgc]; exact hi
    by_cases hij : i = j
    · have := hrow.cells (g := g) rfl i a (by rw [hij, List.getElem?_set_self hj])
      rw [Addr.add_lit, Nat.zero_add, hcell] at this
      exact ha d (Option.some.inj this).symm
    · have hold : w.cell? ⟨g, i, none⟩ = some (encD d) := by
        rw [← hcell, World.cell?_setCell_other]
        intro e
        simp at e <;> omega
      rw [cell_of_obj' hb0] at hold
      exact hn0 i d hold
/-- rows of whole numbers in blocks below a border -/
def ZzK (w : World) (B K : Nat) (v : Value) (M : List (List Int)) : Prop := ∃ us, ZzR w B v us M ∧ (∀ (i : Nat) u g, us[i]? = some u → u.ownBlock = some g → g < K) ∧ ∀ g, v.ownBlock = some g → g < K
theorem ZzO.toK {w : World} {B : Nat} {v : Value} {M : List (List Int)} (h : ZzO w B v M) : ZzK w B w.heap.size v M := by
  obtain ⟨us, h⟩ := h
  refine ⟨us, h, fun i u g hi hg => ?_, fun g hg => (h.own.lt g hg).2⟩
  have hl := h.len
  have hlt := (List.getElem?_eq_some_iff.1 hi).1
  exact ((h.row i u _ hi (List.getElem?_eq_getElem (by omega))).lt g hg).2
theorem ZzK.ext {w w' : World} {B K : Nat} {v : Value} {M : List (List Int)} (h : ZzK w B K v M) (hx : Ext w w') : ZzK w' B K v M := by
  obtain ⟨us, h, h2, h3⟩ := h
  exact ⟨us, ⟨own_ext h.own hx, h.cl.ext hx, h.len, fun i u zs a b => (h.row i u zs a b).ext hx, h.blk, h.dis⟩, h2, h3⟩
theorem ZzK.kept {w w' : World} {B K g n c : Nat} {v : Value} {M : List (List Int)} (h : ZzK w B K v M) (hc : Clean w (.slice (some ⟨g, 0, none⟩) n c)) (hg : w.grownBy w' (some g)) (hK : K ≤ g) : ZzK w' B K v M := by
  obtain ⟨us, h, h2, h3⟩ := h
  refine ⟨us, ⟨own_kept h.own hg (.inl fun e => by have := h3 g e; omega), ?_, h.len, fun i u zs a b => ?_, h.blk, h.dis⟩, h2, h3⟩
  · intro k hk
    obtain ⟨cur, e3, fr, hb, hnd⟩ := h.cl k hk
    have := h3 k hk
    exact ⟨cur, e3, fr, by rw [hg.block k (Array.getElem?_eq_some_iff.1 hb).1 (fun e => by simp only [Option.some.injEq] at e; omega)]; exact hb, hnd⟩
  · exact ZsO.kept (v := .slice (some ⟨g, 0, none⟩) n c) hc hg (h.row i u zs a b) (.inr fun e => by have := h2 i u g a e; omega)
/-- a row of them -/
theorem ZzK.at {w : World} {B K go n cap : Nat} {M : List (List Int)} (h : ZzK w B K (.slice (some ⟨go, 0, none⟩) n cap) M) {i : Nat} {zs : List Int} (hi : M[i]? = some zs) : ∃ g c, B ≤ go ∧ go < K ∧
    w.cell? ⟨go, i, none⟩ = some (.slice (some ⟨g, 0, none⟩) zs.length c) ∧ ZsO w B (.slice (some ⟨g, 0, none⟩) zs.length c) zs ∧ g ≠ go ∧ B ≤ g ∧ g < K ∧
    ∀ w' zs', zs'.length = zs.length → w.grownBy w' (some g) → ZsO w' B (.slice (some ⟨g, 0, none⟩) zs.length c) zs' → Clean w (.slice (some ⟨g, 0, none⟩) zs.length c) → ZzK w' B K (.slice (some ⟨go, 0, none⟩) n cap) (M.set i zs') := by
  obtain ⟨us, h, h2, h3⟩ := h
  have hlt := (List.getElem?_eq_some_iff.1 hi).1
  have hui : us[i]? = some (us[i]'(by rw [h.len]; exact hlt)) := List.getElem?_eq_getElem _
  obtain ⟨g, m, c, e, hne⟩ := h.blk i _ hui
  rw [e] at hui
  have hz := h.row i _ zs hui hi
  have hn : m = zs.length := by obtain ⟨ts, h1, _⟩ := hz; exact own_form h1
  subst hn
  have hc := h.own.cells (g := go) rfl i _ hui
  rw [Addr.add_lit, Nat.zero_add] at hc
  have hgg : g ≠ go := fun e => hne (by rw [e]; rfl)
  refine ⟨g, c, (h.own.lt go rfl).1, h3 go rfl, hc, hz, hgg, (hz.lt g rfl).1, h2 i _ g hui rfl, fun w' zs' hl hg hz' hcl => ⟨us, ⟨?_, ?_, by rw [h.len, List.length_set], fun j u zs2 hu hm => ?_, h.blk, h.dis⟩, h2, h3⟩⟩
  · rw [List.length_set]
    exact own_kept h.own hg (.inl (by simp only [Value.ownBlock, ne_eq, Option.some.injEq]; exact fun e => hgg e.symm))
  · intro k2 hk2
    obtain ⟨cur, e3, fr, hb, hnd⟩ := h.cl k2 hk2
    refine ⟨cur, e3, fr, ?_, hnd⟩
    rw [hg.block k2 (Array.getElem?_eq_some_iff.1 hb).1 (fun e => hgg (by simp only [Value.ownBlock, Option.some.injEq] at hk2 e; omega))]
    exact hb
  · by_cases hji : j = i
    · subst hji
      rw [hui] at hu
      cases hu
      rw [List.getElem?_set_self hlt] at hm
      cases hm
      exact hz'
    · rw [List.getElem?_set_ne (by omega)] at hm
      exact ZsO.kept (v := .slice (some ⟨g, 0, none⟩) zs.length c) hcl hg (h.row j u zs2 hu hm) (.inr (h.dis j i u _ hu hui hji))
/-- two rows change places -/
theorem ZzK.swap {w : World} {B K go n cap : Nat} {M : List (List Int)} (h : ZzK w B K (.slice (some ⟨go, 0, none⟩) n cap) M) {i k : Nat} {ri rk : List Int} (hi : M[i]? = some ri) (hk : M[k]? = some rk) (hne : i ≠ k) : ∃ gi ci gk ck,
    w.cell? ⟨go, i, none⟩ = some (.slice (some ⟨gi, 0, none⟩) ri.length ci) ∧ w.cell? ⟨go, k, none⟩ = some (.slice (some ⟨gk, 0, none⟩) rk.length ck) ∧
    w.frozen? ⟨go, i, none⟩ = false ∧ (w.setCell ⟨go, i, none⟩ (.slice (some ⟨gk, 0, none⟩) rk.length ck)).frozen? ⟨go, k, none⟩ = false ∧ (w.setCell ⟨go, i, none⟩ (.slice (some ⟨gk, 0, none⟩) rk.length ck)).cell? ⟨go, k, none⟩ = some (.slice (some ⟨gk, 0, none⟩) rk.length ck) ∧
    w.grownBy ((w.setCell ⟨go, i, none⟩ (.slice (some ⟨gk, 0, none⟩) rk.length ck)).setCell ⟨go, k, none⟩ (.slice (some ⟨gi, 0, none⟩) ri.length ci)) (some go) ∧ Clean w (.slice (some ⟨go, 0, none⟩) n cap) ∧
    ZzK ((w.setCell ⟨go, i, none⟩ (.slice (some ⟨gk, 0, none⟩) rk.length ck)).setCell ⟨go, k, none⟩ (.slice (some ⟨gi, 0, none⟩) ri.length ci)) B K (.slice (some ⟨go, 0, none⟩) n cap) ((M.set i rk).set k ri) := by
  obtain ⟨us, h, hb1, hb2⟩ := h
  have hn : n = M.length := own_form h.own
  subst hn
  have hlt := (List.getElem?_eq_some_iff.1 hi).1
  have hlk := (List.getElem?_eq_some_iff.1 hk).1
  have hui : us[i]? = some (us[i]'(by rw [h.len]; exact hlt)) := List.getElem?_eq_getElem _
  have huk : us[k]? = some (us[k]'(by rw [h.len]; exact hlk)) := List.getElem?_eq_getElem _
  obtain ⟨gi, ni, ci, ei, hnei⟩ := h.blk i _ hui
  obtain ⟨gk, nk, ck, ek, hnek⟩ := h.blk k _ huk
  rw [ei] at hui
  rw [ek] at huk
  have hzi := h.row i _ ri hui hi
  have hzk := h.row k _ rk huk hk
  have hni : ni = ri.length := by obtain ⟨ts, h1, _⟩ := hzi; exact own_form h1
  have hnk : nk = rk.length := by obtain ⟨ts, h1, _⟩ := hzk; exact own_form h1
  subst hni
  subst hnk
  have hl1 : i < us.length := by rw [h.len]; exact hlt
  have hl2 : k < us.length := by rw [h.len]; exact hlk
  have s1 := h.own.stored i (.slice (some ⟨gk, 0, none⟩) rk.length ck)
  have s2 := s1.1.stored k (.slice (some ⟨gi, 0, none⟩) ri.length ci)
  have hgr := Lib.grownBy_trans s1.2 s2.2
  have hcl2 := clean_set (k := 0) s1.1 (clean_set (k := 0) h.own h.cl hl1 (a := .slice (some ⟨gk, 0, none⟩) rk.length ck) (by intro d; simp [encD])) (j := k) (by rw [List.length_set]; exact hl2) (a := .slice (some ⟨gi, 0, none⟩) ri.length ci) (by intro d; simp [encD])
  have c0 := h.own.cells (g := go) rfl i _ hui
  have c1 := h.own.cells (g := go) rfl k _ huk
  have c2 := s1.1.cells (g := go) rfl k _ (by rw [List.getElem?_set_ne hne]; exact huk)
  rw [Addr.add_lit, Nat.zero_add] at c0 c1 c2
  refine ⟨gi, ci, gk, ck, c0, c1, h.own.frozenAt i, s1.1.frozenAt k, c2, hgr, h.cl, (us.set i (.slice (some ⟨gk, 0, none⟩) rk.length ck)).set k (.slice (some ⟨gi, 0, none⟩) ri.length ci), ?_⟩
  have kp : ∀ {u : Value} {zs : List Int}, ZsO w B u zs → u.ownBlock ≠ some go → ZsO ((w.setCell ⟨go, i, none⟩ (.slice (some ⟨gk, 0, none⟩) rk.length ck)).setCell ⟨go, k, none⟩ (.slice (some ⟨gi, 0, none⟩) ri.length ci)) B u zs := fun hz hn => ZsO.kept (v := .slice (some ⟨go, 0, none⟩) M.length cap) h.cl hgr hz (.inr hn)
  have hnb : ∀ (j : Nat) u, us[j]? = some u → u.ownBlock ≠ some go := fun j u hu => by
    obtain ⟨g, n, c, e, hne2⟩ := h.blk j u hu
    rw [e]
    exact fun e2 => hne2 (by simp only [Value.ownBlock, Option.some.injEq] at e2; rw [e2]; rfl)
  have hget : ∀ (j : Nat) u, ((us.set i (.slice (some ⟨gk, 0, none⟩) rk.length ck)).set k (.slice (some ⟨gi, 0, none⟩) ri.length ci))[j]? = some u → (j = k ∧ us[i]? = some u) ∨ (j ≠ k ∧ j = i ∧ us[k]? = some u) ∨ (j ≠ k ∧ j ≠ i ∧ us[j]? = some u) := fun j u hu => by
    by_cases e1 : j = k
    · subst e1
      rw [List.getElem?_set_self (by rw [List.length_set]; exact hl2)] at hu
      exact .inl ⟨rfl, by rw [hui, hu]⟩
    · rw [List.getElem?_set_ne (by omega)] at hu
      by_cases e2 : j = i
      · subst e2
        rw [List.getElem?_set_self hl1] at hu
        exact .inr (.inl ⟨e1, rfl, by rw [huk, hu]⟩)
      · rw [List.getElem?_set_ne (by omega)] at hu
        exact .inr (.inr ⟨e1, e2, hu⟩)
  have hold : ∀ (j : Nat) u, ((us.set i (.slice (some ⟨gk, 0, none⟩) rk.length ck)).set k (.slice (some ⟨gi, 0, none⟩) ri.length ci))[j]? = some u → ∃ j2, us[j2]? = some u := fun j u hu => by
    rcases hget j u hu with ⟨_, h⟩ | ⟨_, _, h⟩ | ⟨_, _, h⟩
    · exact ⟨_, h⟩
    · exact ⟨_, h⟩
    · exact ⟨_, h⟩
  refine ⟨⟨?_, hcl2, by rw [List.length_set, List.length_set, List.length_set, List.length_set, h.len], fun j u zs hu hz => ?_, fun j u hu => ?_, fun j j2 u u2 hu hu2 hjj => ?_⟩, fun j u g hu hg => ?_, hb2⟩
  · rw [List.length_set, List.length_set]
    exact s2.1
  · rcases hget j u hu with ⟨rfl, hu2⟩ | ⟨e1, rfl, hu2⟩ | ⟨e1, e2, hu2⟩
    · rw [List.getElem?_set_self (by rw [List.length_set]; exact hlk)] at hz
      cases hz
      exact kp (h.row i u _ hu2 hi) (hnb i u hu2)
    · rw [List.getElem?_set_ne (by omega), List.getElem?_set_self hlt] at hz
      cases hz
      exact kp (h.row k u _ hu2 hk) (hnb k u hu2)
    · rw [List.getElem?_set_ne (by omega), List.getElem?_set_ne (by omega)] at hz
      exact kp (h.row j u zs hu2 hz) (hnb j u hu2)
  · obtain ⟨j2, h2⟩ := hold j u hu
    exact h.blk j2 u h2
  · rcases hget j u hu with ⟨a1, b1⟩ | ⟨a1, a2, b1⟩ | ⟨a1, a2, b1⟩ <;> rcases hget j2 u2 hu2 with ⟨c1', d1⟩ | ⟨c1', c2', d1⟩ | ⟨c1', c2', d1⟩
    · omega
    · exact h.dis i k u u2 b1 d1 hne
    · exact h.dis i j2 u u2 b1 d1 (by omega)
    · exact h.dis k i u u2 b1 d1 (by omega)
    · omega
    · exact h.dis k j2 u u2 b1 d1 (by omega)
    · exact h.dis j i u u2 b1 d1 (by omega)
    · exact h.dis j k u u2 b1 d1 (by omega)
    · exact h.dis j j2 u u2 b1 d1 hjj
  · obtain ⟨j2, h2⟩ := hold j u hu
    exact hb1 j2 u g h2 hg
end Go.Proofs.YtnfmknjhkpgppaaGreatDoor
/- the memory of the elimination: the block of its state, boxes, rows -/
namespace Go.Proofs.YtnfmknjhkpgppaaGreatDoor
open Go.RowKit
set_option linter.unusedVariables false

theorem ZzK.keptV {w w' : World} {B K : Nat} {v u : Value} {M : List (List Int)} (h : ZzK w B K v M) (hc : Clean w u) (hg : w.grownBy w' u.ownBlock) (hK : ∀ k, u.ownBlock = some k → K ≤ k) : ZzK w' B K v M := by
  obtain ⟨us, h, h2, h3⟩ := h
  have hv : v.ownBlock = none ∨ v.ownBlock ≠ u.ownBlock := by
    cases hb : v.ownBlock with
    | none => exact .inl rfl
    | some k => exact .inr fun e => by have := h3 k hb; have := hK k e.symm; omega
  refine ⟨us, ⟨own_kept h.own hg hv.symm, ?_, h.len, fun i x zs a b => ?_, h.blk, h.dis⟩, h2, h3⟩
  · intro k hk
    obtain ⟨cur, e3, fr, hb, hnd⟩ := h.cl k hk
    have := h3 k hk
    exact ⟨cur, e3, fr, by rw [hg.block k (Array.getElem?_eq_some_iff.1 hb).1 (fun e => by have := hK k e.symm; omega)]; exact hb, hnd⟩
  · obtain ⟨g, n, c, e, _⟩ := h.blk i x a
    refine ZsO.kept (v := u) hc hg (h.row i x zs a b) (.inr fun e2 => ?_)
    have h4 := h2 i x g a (by rw [e]; rfl)
    have h5 := hK g (by rw [← e2, e]; rfl)
    omega
theorem ZzK.toO {w : World} {B K : Nat} {v : Value} {M : List (List Int)} (h : ZzK w B K v M) : ZzO w B v M := by
  obtain ⟨us, h, _⟩ := h
  exact ⟨us, h⟩
theorem own_isSlice {W : World} {B : Nat} {e : TypeId} {s : Nat} {v : Value} {k : Nat} {xs : List Value} (h : W.ownsRow B e s v k xs) : ∃ po pc, v = .slice po k pc := by
  rcases h.2 with ⟨h1, h2⟩ | ⟨g2, cap2, cur, e, _⟩
  · exact ⟨none, 0, by rw [h1, h2]⟩
  · exact ⟨_, _, e⟩
theorem Clean.keptC2 {w w' : World} {v u : Value} (h : Clean w u) (hg : w.grownBy w' v.ownBlock) (hne : ∀ k, u.ownBlock = some k → v.ownBlock ≠ some k) : Clean w' u := fun k hk => by
  obtain ⟨cur, e3, fr, hb, hnd⟩ := h k hk
  exact ⟨cur, e3, fr, by rw [hg.block k (Array.getElem?_eq_some_iff.1 hb).1 (fun e => hne k hk e.symm)]; exact hb, hnd⟩
/-- the state of the elimination: its block of five cells, the pivots, the last pivot -/
structure RSide (B K g : Nat) (v pv : Value) (k : Nat) (cs : List Value) (s : Bool) (a : Option Addr) (l c : Nat) (neg : Bool) (d : Int) (w : World) : Prop where
  blk : w.ownsRow B 76 5 (.slice (some ⟨g, 0, none⟩) 1 1) 1 [v, pv, .bool s, .slice a l c, .bool neg]
  cl : Clean w (.slice (some ⟨g, 0, none⟩) 1 1)
  pvo : w.ownsRow B 3 1 pv k cs
  pcl : Clean w pv
  int : IntV w (.agg #[.bool s, .slice a l c]) d
  gK : K ≤ g
  pK : ∀ x, pv.ownBlock = some x → K ≤ x ∧ x ≠ g
theorem RSide.ext {B K g : Nat} {v pv : Value} {k : Nat} {cs : List Value} {s : Bool} {a : Option Addr} {l c : Nat} {neg : Bool} {d : Int} {w w' : World} (h : RSide B K g v pv k cs s a l c neg d w) (hx : Ext w w') : RSide B K g v pv k cs s a l c neg d w' :=
  ⟨own_ext h.blk hx, h.cl.ext hx, own_ext h.pvo hx, h.pcl.ext hx, h.int.ext hx, h.gK, h.pK⟩
/-- a store below the border leaves it -/
theorem RSide.kept {B K g : Nat} {v pv : Value} {k : Nat} {cs : List Value} {s : Bool} {a : Option Addr} {l c : Nat} {neg : Bool} {d : Int} {w w' : World} (h : RSide B K g v pv k cs s a l c neg d w) {u : Value} {x : Nat} (hc : Clean w u) (hu : u.ownBlock = some x) (hg : w.grownBy w' u.ownBlock) (hx : x < K) : RSide B K g v pv k cs s a l c neg d w' := by
  have n1 : g ≠ x := by have := h.gK; omega
  have n2 : ∀ y, pv.ownBlock = some y → u.ownBlock ≠ some y := fun y hy e => by
    have := (h.pK y hy).1
    rw [hu] at e
    cases e
    omega
  have hp : pv.ownBlock ≠ u.ownBlock ∨ pv.ownBlock = none := by
    cases hb : pv.ownBlock with
    | none => exact .inr rfl
    | some y => exact .inl fun e => n2 y hb e.symm
  refine ⟨own_kept h.blk hg (.inl fun e => n1 (by rw [hu] at e; exact Option.some.inj e)), h.cl.keptC2 hg fun y hy e => n1 (by simp only [Value.ownBlock, Option.some.injEq] at hy; rw [hu] at e; cases e; exact hy), own_kept h.pvo hg hp, h.pcl.keptC2 hg n2, hc.keptI hg h.int, h.gK, h.pK⟩
theorem RSide.cells {B K g : Nat} {v pv : Value} {k : Nat} {cs : List Value} {s : Bool} {a : Option Addr} {l c : Nat} {neg : Bool} {d : Int} {w : World} (h : RSide B K g v pv k cs s a l c neg d w) :
    w.cell? ⟨g, 1, none⟩ = some pv ∧ w.cell? ⟨g, 2, none⟩ = some (.bool s) ∧ w.cell? ⟨g, 3, none⟩ = some (.slice a l c) ∧ w.cell? ⟨g, 4, none⟩ = some (.bool neg) := by
  have cc : ∀ {j : Nat} {u : Value}, [v, pv, .bool s, .slice a l c, .bool neg][j]? = some u → w.cell? ⟨g, j, none⟩ = some u := by
    intro j u hj
    have := h.blk.cells (g := g) rfl j u hj
    rwa [Addr.add_lit, Nat.zero_add] at this
  exact ⟨cc rfl, cc rfl, cc rfl, cc rfl⟩
/-- what a store into the state's block does to the rows and the pivots -/
theorem RSide.set {B K g : Nat} {v pv : Value} {k : Nat} {cs : List Value} {s : Bool} {a : Option Addr} {l c : Nat} {neg : Bool} {d : Int} {w : World} (h : RSide B K g v pv k cs s a l c neg d w) (j : Nat) (hj : j < 5) (u : Value) (hu : ∀ d : Nat, u ≠ encD d) :
    w.frozen? ⟨g, j, none⟩ = false ∧ w.grownBy (w.setCell ⟨g, j, none⟩ u) (some g) ∧ (w.setCell ⟨g, j, none⟩ u).ownsRow B 76 5 (.slice (some ⟨g, 0, none⟩) 1 1) 1 ([v, pv, .bool s, .slice a l c, .bool neg].set j u) ∧ Clean (w.setCell ⟨g, j, none⟩ u) (.slice (some ⟨g, 0, none⟩) 1 1) :=
  ⟨h.blk.frozenAt j, (h.blk.stored j u).2, (h.blk.stored j u).1, clean_set (k := 0) h.blk h.cl (by simpa using hj) hu⟩
theorem RSide.pv_ne {B K g : Nat} {v pv : Value} {k : Nat} {cs : List Value} {s : Bool} {a : Option Addr} {l c : Nat} {neg : Bool} {d : Int} {w : World} (h : RSide B K g v pv k cs s a l c neg d w) : pv.ownBlock ≠ (some g) ∨ pv.ownBlock = none := by
  cases hb : pv.ownBlock with
  | none => exact .inr rfl
  | some y => exact .inl fun e => by cases e; exact (h.pK g hb).2 rfl
theorem RSide.neg {B K g : Nat} {v pv : Value} {k : Nat} {cs : List Value} {s : Bool} {a : Option Addr} {l c : Nat} {neg : Bool} {d : Int} {w : World} (h : RSide B K g v pv k cs s a l c neg d w) (b : Bool) :
    w.frozen? ⟨g, 4, none⟩ = false ∧ w.grownBy (w.setCell ⟨g, 4, none⟩ (.bool b)) (some g) ∧ RSide B K g v pv k cs s a l c b d (w.setCell ⟨g, 4, none⟩ (.bool b)) := by
  obtain ⟨h1, h2, h3, h4⟩ := h.set 4 (by omega) (.bool b) (by intro d; simp [encD])
  refine ⟨h1, h2, h3, h4, own_kept h.pvo h2 h.pv_ne, h.pcl.keptC2 (v := .slice (some ⟨g, 0, none⟩) 1 1) h2 fun y hy e => ?_, h.cl.keptI h2 h.int, h.gK, h.pK⟩
  simp only [Value.ownBlock, Option.some.injEq] at e
  exact (h.pK y hy).2 e.symm
theorem RSide.last {B K g : Nat} {v pv : Value} {k : Nat} {cs : List Value} {s : Bool} {a : Option Addr} {l c : Nat} {neg : Bool} {d : Int} {w : World} (h : RSide B K g v pv k cs s a l c neg d w) {s2 : Bool} {a2 : Option Addr} {l2 c2 : Nat} {z : Int} (hz : IntV w (.agg #[.bool s2, .slice a2 l2 c2]) z) :
    w.frozen? ⟨g, 2, none⟩ = false ∧ (w.setCell ⟨g, 2, none⟩ (.bool s2)).frozen? ⟨g, 3, none⟩ = false ∧ (w.setCell ⟨g, 2, none⟩ (.bool s2)).cell? ⟨g, 3, none⟩ = some (.slice a l c) ∧
    w.grownBy ((w.setCell ⟨g, 2, none⟩ (.bool s2)).setCell ⟨g, 3, none⟩ (.slice a2 l2 c2)) (some g) ∧ RSide B K g v pv k cs s2 a2 l2 c2 neg z ((w.setCell ⟨g, 2, none⟩ (.bool s2)).setCell ⟨g, 3, none⟩ (.slice a2 l2 c2)) := by
  obtain ⟨h1, h2, h3, h4⟩ := h.set 2 (by omega) (.bool s2) (by intro d; simp [encD])
  have t2 := (h3.stored 3 (.slice a2 l2 c2)).2
  have t3 := (h3.stored 3 (.slice a2 l2 c2)).1
  have t4 := clean_set (k := 0) h3 h4 (j := 3) (by simp) (a := .slice a2 l2 c2) (by intro d; simp [encD])
  have hgr := Lib.grownBy_trans h2 t2
  have hc3 := h3.cells (g := g) rfl 3 (.slice a l c) rfl
  rw [Addr.add_lit, Nat.zero_add] at hc3
  refine ⟨h1, h3.frozenAt 3, hc3, hgr, t3, t4, own_kept h.pvo hgr h.pv_ne, h.pcl.keptC2 (v := .slice (some ⟨g, 0, none⟩) 1 1) hgr fun y hy e => ?_, h.cl.keptI hgr hz, h.gK, h.pK⟩
  simp only [Value.ownBlock, Option.some.injEq] at e
  exact (h.pK y hy).2 e.symm
/-- the pivots have grown -/
theorem RSide.piv {B K g : Nat} {v pv : Value} {k : Nat} {cs : List Value} {s : Bool} {a : Option Addr} {l c : Nat} {neg : Bool} {d : Int} {w w' : World} {pv' : Value} {x : Value} (h : RSide B K g v pv k cs s a l c neg d w) (ho : w'.ownsRow B 3 1 pv' (k + 1) (cs ++ [x])) (hg : Grew w pv w' pv') (hc : Clean w' pv') :
    w'.frozen? ⟨g, 1, none⟩ = false ∧ w'.cell? ⟨g, 1, none⟩ = some pv ∧ w'.grownBy (w'.setCell ⟨g, 1, none⟩ pv') (some g) ∧ Clean w' (.slice (some ⟨g, 0, none⟩) 1 1) ∧ RSide B K g v pv' (k + 1) (cs ++ [x]) s a l c neg d (w'.setCell ⟨g, 1, none⟩ pv') := by
  have hgw : g < w.heap.size := (h.blk.lt g rfl).2
  have n1 : (Value.slice (some ⟨g, 0, none⟩) 1 1).ownBlock ≠ pv.ownBlock ∨ (Value.slice (some ⟨g, 0, none⟩) 1 1).ownBlock = none := .inl fun e => by
    have := (h.pK g e.symm).2
    exact this rfl
  have hpK : ∀ y, pv'.ownBlock = some y → K ≤ y ∧ y ≠ g := fun y hy => by
    rcases hg.blk with e | e
    · rw [e] at hy; exact h.pK y hy
    · have h5 := e y hy
      have := h.gK
      omega
  have hb := own_kept h.blk hg.by' n1
  have hcl : Clean w' (.slice (some ⟨g, 0, none⟩) 1 1) := h.cl.keptC2 hg.by' fun y hy e => by
    simp only [Value.ownBlock, Option.some.injEq] at hy
    subst hy
    exact (h.pK g e).2 rfl
  obtain ⟨po, pc, hpe⟩ := own_isSlice ho
  have t1 := (hb.stored 1 pv').1
  have t2 := (hb.stored 1 pv').2
  have t3 := clean_set (k := 0) hb hcl (j := 1) (by simp) (a := pv') (by intro d; rw [hpe]; simp [encD])
  have hc1 := hb.cells (g := g) rfl 1 pv rfl
  rw [Addr.add_lit, Nat.zero_add] at hc1
  refine ⟨hb.frozenAt 1, hc1, t2, hcl, t1, t3, own_kept ho t2 ?_, hc.keptC2 (v := .slice (some ⟨g, 0, none⟩) 1 1) t2 fun y hy e => ?_, hcl.keptI t2 (h.pcl.keptI hg.by' h.int), h.gK, hpK⟩
  · cases hb2 : pv'.ownBlock with
    | none => exact .inr rfl
    | some y => exact .inl fun e => by cases e; exact (hpK g hb2).2 rfl
  · simp only [Value.ownBlock, Option.some.injEq] at e
    exact (hpK y hy).2 e.symm
/-- a box that holds a whole number -/
structure BoxI (K T : Nat) (s : Bool) (a : Option Addr) (l c : Nat) (z : Int) (w : World) : Prop where
  c0 : w.cell? ⟨T, 0, none⟩ = some (.bool s)
  c1 : w.cell? ⟨T, 1, none⟩ = some (.slice a l c)
  int : IntV w (.agg #[.bool s, .slice a l c]) z
  tK : K ≤ T
theorem BoxI.ext {K T : Nat} {s : Bool} {a : Option Addr} {l c : Nat} {z : Int} {w w' : World} (h : BoxI K T s a l c z w) (hx : Ext w w') : BoxI K T s a l c z w' := ⟨hx.cell h.c0, hx.cell h.c1, h.int.ext hx, h.tK⟩
theorem BoxI.kept {K T : Nat} {s : Bool} {a : Option Addr} {l c : Nat} {z : Int} {w w' : World} (h : BoxI K T s a l c z w) {u : Value} {x : Nat} (hc : Clean w u) (hu : u.ownBlock = some x) (hg : w.grownBy w' u.ownBlock) (hx : x < K) : BoxI K T s a l c z w' := by
  have n1 : u.ownBlock ≠ some T := by rw [hu]; intro e; cases e; have := h.tK; omega
  exact ⟨hg.cell h.c0 (fun e => n1 e.symm), hg.cell h.c1 (fun e => n1 e.symm), hc.keptI hg h.int, h.tK⟩
theorem BoxI.new {K T : Nat} {s : Bool} {a : Option Addr} {l c : Nat} {z : Int} {w : World} (h : IntV w (.agg #[.bool s, .slice a l c]) z) (hT : w.heap.size = T) (hK : K ≤ T) : BoxI K T s a l c z (w.alloc (.cells #[.bool s, .slice a l c] 58)) := by
  subst hT
  exact ⟨by simp [go_sem], by simp [go_sem], h.ext ((Ext.refl w).alloc _), hK⟩
/-- the first elements of one list, then those of another one -/
def mixG {α : Type} (ys zs : List α) (i : Nat) : List α := zs.take i ++ ys.drop i
theorem mixG_zero {α : Type} (ys zs : List α) : mixG ys zs 0 = ys := by unfold mixG; rw [List.take_zero, List.drop_zero]; rfl
theorem mixG_all {α : Type} {ys zs : List α} (h : zs.length = ys.length) : mixG ys zs ys.length = zs := by unfold mixG; rw [← h, List.take_length, h, List.drop_length, List.append_nil]
theorem mixG_len {α : Type} {ys zs : List α} (h : zs.length = ys.length) (i : Nat) : (mixG ys zs i).length = ys.length := by
  unfold mixG; rw [List.length_append, List.length_take, List.length_drop]; omega
theorem mixG_get {α : Type} {ys zs : List α} {i : Nat} {q : α} (hl : zs.length = ys.length) (h : ys[i]? = some q) : (mixG ys zs i)[i]? = some q := by
  have := (List.getElem?_eq_some_iff.1 h).1
  unfold mixG
  rw [List.getElem?_append_right (by rw [List.length_take]; omega), List.length_take, Nat.min_eq_left (by omega), Nat.sub_self, List.getElem?_drop, Nat.add_zero]
  exact h
theorem mixG_set {α : Type} {ys zs : List α} {i : Nat} {q : α} (hl : zs.length = ys.length) (h : zs[i]? = some q) : (mixG ys zs i).set i q = mixG ys zs (i + 1) := by
  obtain ⟨h1, h2⟩ := List.getElem?_eq_some_iff.1 h
  unfold mixG
  have hlen : (zs.take i).length = i := by rw [List.length_take]; omega
  rw [List.set_append_right _ _ (by omega), hlen, Nat.sub_self, List.take_succ_eq_append_getElem h1, h2, List.append_assoc, List.drop_eq_getElem_cons (by omega : i < ys.length), List.set_cons_zero]
  rfl
theorem mixG_both {α : Type} {ys zs : List α} {k : Nat} {q : α} (h1 : ys[k]? = some q) (h2 : zs[k]? = some q) (hl : zs.length = ys.length) (i : Nat) : (mixG ys zs i)[k]? = some q := by
  have hk := (List.getElem?_eq_some_iff.1 h2).1
  unfold mixG
  by_cases h : k < i
  · rw [List.getElem?_append_left (by rw [List.length_take]; omega), List.getElem?_take, if_pos h]
    exact h2
  · rw [List.getElem?_append_right (by rw [List.length_take]; omega), List.length_take, Nat.min_def]
    split
    · rw [List.getElem?_drop, show i + (k - i) = k by omega]; exact h1
    · omega
theorem set_same {α : Type} {ys : List α} {i : Nat} {q : α} (h : ys[i]? = some q) : ys.set i q = ys := by
  apply List.ext_getElem?
  intro j
  by_cases e : j = i
  · subst e
    rw [List.getElem?_set_self (List.getElem?_eq_some_iff.1 h).1, h]
  · rw [List.getElem?_set_ne (by omega)]
end Go.Proofs.YtnfmknjhkpgppaaGreatDoor
