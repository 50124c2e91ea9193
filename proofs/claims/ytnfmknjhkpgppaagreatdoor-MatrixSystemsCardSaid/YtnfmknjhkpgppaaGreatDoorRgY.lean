/- texts merged: RgI RgJ RgK RgL RgM RgN -/
import Derived.Test.YtnfmknjhkpgppaaGreatDoorRgX
import Derived.OwnWalk
import Derived.Test.YtnfmknjhkpgppaaGreatDoorRtI
import Derived.Test.YtnfmknjhkpgppaaGreatDoorWgt
/- walks: regret.Average, Bounds -/
namespace Go.Proofs.YtnfmknjhkpgppaaGreatDoor
open Go.RowKit
set_option linter.unusedVariables false

end Go.Proofs.YtnfmknjhkpgppaaGreatDoor
/- walks: rat.In as an own slice; regret.Match -/
namespace Go.Proofs.YtnfmknjhkpgppaaGreatDoor
open Go.RowKit
set_option linter.unusedVariables false

/-- what Match returns -/
def VecPost (qs : List Rat) (w : World) (e : Ending) (w' : World) : Prop := Ext w w' ∧
  ((outsG qs = none ∧ e = .returned (.tuple #[.slice none 0 0, .int .i64 2])) ∨ ∃ os u, outsG qs = some os ∧ e = .returned (.tuple #[u, .int .i64 0]) ∧ Strs w' u os)

end Go.Proofs.YtnfmknjhkpgppaaGreatDoor
/- own slices that are filled; rows below a border; append of pairs -/
namespace Go.Proofs.YtnfmknjhkpgppaaGreatDoor
open Go.RowKit
set_option linter.unusedVariables false

/-- an own slice of which some elements are known -/
def QsG (w : World) (B : Nat) (v : Value) (qs : List (Option Rat)) : Prop := ∃ ts : List TV, w.ownsRow B 60 3 v qs.length (flatT ts) ∧ Clean w v ∧ ts.length = qs.length ∧ ∀ (i : Nat) t q, ts[i]? = some t → qs[i]? = some (some q) → QV w t.v q
theorem QsG.ext {w w' : World} {B : Nat} {v : Value} {qs : List (Option Rat)} (h : QsG w B v qs) (hx : Ext w w') : QsG w' B v qs := by
  obtain ⟨ts, h1, h2, h3, h4⟩ := h
  exact ⟨ts, own_ext h1 hx, h2.ext hx, h3, fun i t q a b => (h4 i t q a b).ext hx⟩
theorem QsG.clean {w : World} {B : Nat} {v : Value} {qs : List (Option Rat)} (h : QsG w B v qs) : Clean w v := by
  obtain ⟨ts, h1, h2, h3, h4⟩ := h
  exact h2
theorem QsG.kept {w w' : World} {B : Nat} {v u : Value} {qs : List (Option Rat)} (hc : Clean w v) (hg : w.grownBy w' v.ownBlock) (h : QsG w B u qs) (hne : u.ownBlock = none ∨ u.ownBlock ≠ v.ownBlock) : QsG w' B u qs := by
  obtain ⟨ts, h1, h2, h3, h4⟩ := h
  refine ⟨ts, own_kept h1 hg (hne.elim .inr .inl), fun g hgb => ?_, h3, fun i t q a b => hc.keptQ hg (h4 i t q a b)⟩
  obtain ⟨cur, e, fr, hb, hn⟩ := h2 g hgb
  refine ⟨cur, e, fr, ?_, hn⟩
  rw [hg.block g (Array.getElem?_eq_some_iff.1 hb).1 (fun e => ?_)]
  · exact hb
  · rcases hne with h | h
    · rw [h] at hgb; cases hgb
    · exact h (by rw [hgb, e])
theorem flatT_repl : ∀ n, flatT (List.replicate n ((.bool false, .slice none 0 0, .slice none 0 0) : TV)) = (madeCells #[.bool false, .slice none 0 0, .slice none 0 0] (n * 3)).toList
  | n => by
    apply List.ext_getElem?
    intro i
    have hl : (flatT (List.replicate n ((.bool false, .slice none 0 0, .slice none 0 0) : TV))).length = n * 3 := by rw [flatT_len, List.length_replicate]
    by_cases hi : i < n * 3
    · have hk : i / 3 < n := by omega
      have ht : (List.replicate n ((.bool false, .slice none 0 0, .slice none 0 0) : TV))[i / 3]? = some (.bool false, .slice none 0 0, .slice none 0 0) := by rw [List.getElem?_replicate, if_pos hk]
      obtain ⟨g0, g1, g2⟩ := flatT_get _ _ _ ht
      have hm : (madeCells #[.bool false, .slice none 0 0, .slice none 0 0] (n * 3)).toList[i]? = some (#[Value.bool false, .slice none 0 0, .slice none 0 0][i % 3]!) := by
        rw [List.getElem?_eq_getElem (by simp [madeCells]; exact hi)]
        simp [madeCells]
      rw [hm]
      rcases (show i % 3 = 0 ∨ i % 3 = 1 ∨ i % 3 = 2 by omega) with h | h | h
      · rw [show i = i / 3 * 3 by omega, g0]; rw [show i / 3 * 3 % 3 = 0 by omega]; rfl
      · rw [show i = i / 3 * 3 + 1 by omega]; rw [show (i / 3 * 3 + 1) % 3 = 1 by omega]; rw [g1]; rfl
      · rw [show i = i / 3 * 3 + 2 by omega]; rw [show (i / 3 * 3 + 2) % 3 = 2 by omega]; rw [g2]; rfl
    · rw [List.getElem?_eq_none (by rw [hl]; omega), List.getElem?_eq_none (by simp [madeCells]; omega)]
/-- a slice that is made -/
theorem QsG.made {w : World} {B g n : Nat} (h : w.ownsRow B 60 3 (.slice (some ⟨g, 0, none⟩) n n) n (madeCells #[.bool false, .slice none 0 0, .slice none 0 0] (n * 3)).toList) : QsG w B (.slice (some ⟨g, 0, none⟩) n n) (List.replicate n none) := by
  rw [← flatT_repl] at h
  have hc := clean_full h fun x hx d => by
    obtain ⟨i, hi⟩ := List.mem_iff_getElem?.1 hx
    have hl := flatT_len (List.replicate n ((.bool false, .slice none 0 0, .slice none 0 0) : TV))
    rw [List.length_replicate] at hl
    have hlt := (List.getElem?_eq_some_iff.1 hi).1
    have ht : (List.replicate n ((.bool false, .slice none 0 0, .slice none 0 0) : TV))[i / 3]? = some (.bool false, .slice none 0 0, .slice none 0 0) := by rw [List.getElem?_replicate, if_pos (by omega)]
    obtain ⟨g0, g1, g2⟩ := flatT_get _ _ _ ht
    rcases (show i % 3 = 0 ∨ i % 3 = 1 ∨ i % 3 = 2 by omega) with h | h | h
    · rw [show i = i / 3 * 3 by omega, g0] at hi; cases hi; simp [encD]
    · rw [show i = i / 3 * 3 + 1 by omega, g1] at hi; cases hi; simp [encD]
    · rw [show i = i / 3 * 3 + 2 by omega, g2] at hi; cases hi; simp [encD]
  refine ⟨_, by rw [List.length_replicate]; exact h, hc, by rw [List.length_replicate, List.length_replicate], fun i t q a b => ?_⟩
  rw [List.getElem?_replicate] at b
  split at b <;> simp at b
theorem QsG.stored {w : World} {B g n cap : Nat} {qs : List (Option Rat)} (h : QsG w B (.slice (some ⟨g, 0, none⟩) n cap) qs) {i : Nat} (hi : i < qs.length) : ∃ x y z, StI w g i x y z ∧
    ∀ s a l c b m d q, QV w (.agg #[.bool s, .slice a l c, .slice b m d]) q → ∃ w', (((w.setCell ⟨g, i * 3, none⟩ (.bool s)).setCell ⟨g, i * 3 + 1, none⟩ (.slice a l c)).setCell ⟨g, i * 3 + 2, none⟩ (.slice b m d)) = w' ∧ w.grownBy w' (some g) ∧ QsG w' B (.slice (some ⟨g, 0, none⟩) n cap) (qs.set i (some q)) := by
  obtain ⟨ts, h1, h2, h3, h4⟩ := h
  have hn : n = qs.length := by
    rcases h1.2 with ⟨e, _⟩ | ⟨g2, cap2, cur, e, _⟩
    · simp at e
    · simp only [Value.slice.injEq] at e; exact e.2.1
  subst hn
  have s1 := fun a => h1.stored (i * 3) a
  have s2 := fun a b => (s1 a).1.stored (i * 3 + 1) b
  have s3 := fun a b c => (s2 a b).1.stored (i * 3 + 2) c
  have hti : ts[i]? = some (ts[i]'(by omega)) := List.getElem?_eq_getElem (by omega)
  obtain ⟨p0, p1, p2⟩ := flatT_get ts i _ hti
  have hfl := flatT_len ts
  have cc : ∀ {w1 : World} {xs : List Value} (_ : w1.ownsRow B 60 3 (.slice (some ⟨g, 0, none⟩) qs.length cap) qs.length xs) {j : Nat} {u : Value}, xs[j]? = some u → w1.cell? ⟨g, j, none⟩ = some u := by
    intro w1 xs hh j u hj
    have := hh.cells (g := g) rfl j u hj
    rwa [Addr.add_lit, Nat.zero_add] at this
  refine ⟨_, _, _, ⟨h1.frozenAt (i * 3), cc h1 p0, fun a => (s1 a).1.frozenAt (i * 3 + 1), fun a => cc (s1 a).1 (by rw [List.getElem?_set_ne (by omega)]; exact p1), fun a b => (s2 a b).1.frozenAt (i * 3 + 2), fun a b => cc (s2 a b).1 (by rw [List.getElem?_set_ne (by omega), List.getElem?_set_ne (by omega)]; exact p2)⟩, ?_⟩
  intro s a l c b m d q hq
  have hgr := Lib.grownBy_trans (Lib.grownBy_trans (s1 (.bool s)).2 (s2 (.bool s) (.slice a l c)).2) (s3 (.bool s) (.slice a l c) (.slice b m d)).2
  have hrow := (s3 (.bool s) (.slice a l c) (.slice b m d)).1
  refine ⟨_, rfl, hgr, ts.set i (.bool s, .slice a l c, .slice b m d), ?_, ?_, by simp [h3], fun j t q2 hj hq2 => ?_⟩
  · rw [flatT_set _ _ _ _ _ (by omega), List.length_set]; exact hrow
  · intro k hk
    simp only [Value.ownBlock, Option.some.injEq] at hk
    subst hk
    rcases hrow.2 with ⟨e, _⟩ | ⟨g2, cap2, cur, e, _, hgc, _, hcm, hcs, htk⟩
    · simp at e
    · simp only [Value.slice.injEq, Option.some.injEq, Addr.mk.injEq, and_true, true_and] at e
      obtain ⟨rfl, rfl⟩ := e
      refine ⟨cur, _, _, hgc, ?_⟩
      obtain ⟨cur0, e0, fr0, hb0, hn0⟩ := h2 g rfl
      intro j d2 hj
      have hcell : (((w.setCell ⟨g, i * 3, none⟩ (.bool s)).setCell ⟨g, i * 3 + 1, none⟩ (.slice a l c)).setCell ⟨g, i * 3 + 2, none⟩ (.slice b m d)).cell? ⟨g, j, none⟩ = some (encD d2) := by rw [cell_of_obj' hgc]; exact hj
      by_cases j2 : j = i * 3 + 2
      · have := cc hrow (j := j) (u := .slice b m d) (by rw [j2, List.getElem?_set_self (by rw [List.length_set, List.length_set]; omega)])
        rw [hcell] at this
        simp [encD] at this
      · by_cases j1 : j = i * 3 + 1
        · have := cc hrow (j := j) (u := .slice a l c) (by rw [List.getElem?_set_ne (by omega), j1, List.getElem?_set_self (by rw [List.length_set]; omega)])
          rw [hcell] at this
          simp [encD] at this
        · by_cases j0 : j = i * 3
          · have := cc hrow (j := j) (u := .bool s) (by rw [List.getElem?_set_ne (by omega), List.getElem?_set_ne (by omega), j0, List.getElem?_set_self (by omega)])
            rw [hcell] at this
            simp [encD] at this
          · have hold : w.cell? ⟨g, j, none⟩ = some (encD d2) := by
              rw [← hcell]
              rw [World.cell?_setCell_other, World.cell?_setCell_other, World.cell?_setCell_other]
              all_goals (intro e; simp at e <;> omega)
            rw [cell_of_obj' hb0] at hold
            exact hn0 j d2 hold
  · by_cases hji : j = i
    · subst hji
      rw [List.getElem?_set_self (by omega)] at hj
      rw [List.getElem?_set_self hi] at hq2
      cases hj
      cases hq2
      exact h2.keptQ (v := .slice (some ⟨g, 0, none⟩) qs.length cap) hgr hq
    · rw [List.getElem?_set_ne (by omega)] at hj hq2
      exact h2.keptQ (v := .slice (some ⟨g, 0, none⟩) qs.length cap) hgr (h4 j t q2 hj hq2)
/-- append of one element of two cells, to a slice that holds no digit -/
theorem wp_app2c {P : Program} {rest : List Oper} {oa : Array Oper} {o : Oper} {a : Act} {Q : Exit → Act → World → Prop} {W : World} {x1 x2 : Value} (hg : o.guard = none) {s x : Operand} {t e : TypeId} {z : Value} {bytes : Nat}
    (ho : o.op = .call { callee := .builtin .append, args := #[s, x], argTypes := #[t, t] }) (ei : EI P t e z 2 bytes) (hzc : ∀ x ∈ z.cells.toList, ∀ d : Nat, x ≠ encD d) {B : Nat} {v : Value} {n : Nat} {xs : List Value}
    (hown : W.ownsRow B e 2 v n xs) (hcl : Clean W v) (hs : a.eval s = v) {k : Nat} (hx : a.eval x = .slice (some ⟨k, 0, none⟩) 1 1) (hk : k = W.heap.size)
    (h1 : x1.oneCell' = true) (h2 : x2.oneCell' = true) (hd : ∀ y ∈ [x1, x2], ∀ d : Nat, y ≠ encD d) (hlen : n + 1 ≤ 17592186044416) (hby : (n + 1) * bytes ≤ 140737488355328) (hB : B ≤ W.heap.size)
    (h : ∀ v' w', w'.ownsRow B e 2 v' (n + 1) (xs ++ [x1, x2]) → Grew W v w' v' → Clean w' v' → wpList P oa Q rest (a.put o.dst v') w') : wpList P oa Q (o :: rest) a (W.alloc (.cells #[x1, x2] e)) := by
  subst hk
  have hsrc : Src (W.alloc (.cells #[x1, x2] e)) (.slice (some ⟨W.heap.size, 0, none⟩) 1 1) 1 2 [x1, x2] := by
    refine ⟨_, _, rfl, rfl, ?_, fun _ => ⟨_, _, rfl, fun j y hy => ?_⟩⟩
    · intro y hy
      rcases List.mem_cons.1 hy with rfl | hy
      · exact h1
      · rw [List.mem_singleton] at hy; subst hy; exact h2
    · match j, hy with
      | 0, hy => simp at hy; subst hy; simp [World.cell?_alloc_new]
      | 1, hy => simp at hy; subst hy; simp [World.cell?_alloc_new]
  refine wpList_plain hg fun K hK => ?_
  have ho2 := own_ext hown ((Ext.refl W).alloc (.cells #[x1, x2] e))
  obtain ⟨v', w', hr, g2, g3⟩ := run_app (P := P) (ty := o.type) ei ho2 hsrc hlen hby (by simp; omega)
  obtain ⟨i, i1, i2, i3, i4⟩ := ei.info
  subst i4
  obtain ⟨ao, c, e1, e2, e3, e4⟩ := hsrc
  have hcl2 : Clean w' v' := append_clean (B := B) ei.und i1 i2 (by rw [i3]; exact ei.zc) (by rw [i3]; omega) (by rw [i3]; exact ho2) (hcl.alloc _) hzc (m := 1) (by rw [i3]; rfl) (by omega) (a := ⟨W.heap.size, 0, none⟩) (c := 1) (news := [x1, x2]) (by
    intro j u hu
    match j, hu with
    | 0, hy => simp at hy; subst hy; simp [Addr.add, World.cell?_alloc_new]
    | 1, hy => simp at hy; subst hy; simp [Addr.add, World.cell?_alloc_new]) e3 hd (by unfold maxLen; omega) hby hr
  unfold Oper.wp execOp
  simp only [ho, resolve, invoke, builtin, Sem.run_bind, Sem.run_pure, Result.andThen_ok, List.map_toArray, List.map_cons, List.map_nil, hs, hx, hr]
  refine hK _ _ (h v' w' g2 ⟨⟨g3.by'.os, g3.by'.tape, g3.by'.output, Nat.le_trans (by simp) g3.by'.size, fun k hk hn => ?_⟩, ?_⟩ hcl2)
  · rw [g3.by'.block k (by simp; omega) hn]; exact Below.heap_alloc W _ k hk
  · rcases g3.blk with e | e
    · exact .inl e
    · exact .inr fun k hk => by have := e k hk; simp at this; omega

/-- rows whose blocks lie below a border -/
def QssK (K : Nat) (w : World) (v : Value) (m : List (List Rat)) : Prop := ∃ us, Row w v us ∧ us.length = m.length ∧ (us ≠ [] → ∀ b off l c, v = .slice (some ⟨b, off, none⟩) l c → b < K) ∧
  ∀ (i : Nat) u qs, us[i]? = some u → m[i]? = some qs → QsV w u qs ∧ (qs ≠ [] → ∀ b l c, u = .slice (some ⟨b, 0, none⟩) l c → b < K)
theorem QssV.toK {w : World} {v : Value} {m : List (List Rat)} (h : QssV w v m) : QssK w.heap.size w v m := by
  obtain ⟨us, h1, h2, h3⟩ := h
  refine ⟨us, h1, h2, fun hn b off l c e => ?_, fun i u qs a b => ⟨h3 i u qs a b, fun hn b2 l c e => ?_⟩⟩
  · obtain ⟨ao, c2, e2, _, hlen, _, hc⟩ := h1
    obtain ⟨x, t, rfl⟩ := List.exists_cons_of_ne_nil hn
    obtain ⟨b3, off3, e3, hcell⟩ := hc 0 x rfl
    rw [e2] at e
    simp only [Value.slice.injEq] at e
    rw [e3] at e
    simp only [Option.some.injEq, Addr.mk.injEq, and_true] at e
    rw [← e.1.1]
    exact World.block_lt_of_cell? w _ hcell
  · obtain ⟨ao, c2, e2, _, hC⟩ := (h3 i u qs a b).opn
    rw [e2] at e
    simp only [Value.slice.injEq] at e
    exact hC.lt b2 e.1 hn
theorem QssK.ext {K : Nat} {w w' : World} {v : Value} {m : List (List Rat)} (h : QssK K w v m) (hx : Ext w w') : QssK K w' v m := by
  obtain ⟨us, h1, h2, h3, h4⟩ := h
  exact ⟨us, h1.ext hx, h2, h3, fun i u qs a b => ⟨(h4 i u qs a b).1.ext hx, (h4 i u qs a b).2⟩⟩
theorem QssK.kept {K : Nat} {w w' : World} {v u : Value} {m : List (List Rat)} (hc : Clean w v) (hg : w.grownBy w' v.ownBlock) (hk : ∀ k, v.ownBlock = some k → K ≤ k) (h : QssK K w u m) : QssK K w' u m := by
  obtain ⟨us, h1, h2, h3, h4⟩ := h
  refine ⟨us, ?_, h2, h3, fun i x qs a b => ⟨?_, (h4 i x qs a b).2⟩⟩
  · obtain ⟨ao, c, e, p1, p2, p3, hcells⟩ := h1
    refine ⟨ao, c, e, p1, p2, p3, fun i x hx => ?_⟩
    obtain ⟨b, off, eb, hcell⟩ := hcells i x hx
    have hb := h3 (by intro e0; rw [e0] at hx; simp at hx) b off _ _ (by rw [e, eb])
    exact ⟨b, off, eb, hg.cell hcell (fun e0 => by have := hk b e0.symm; omega)⟩
  · obtain ⟨hq, hb⟩ := h4 i x qs a b
    obtain ⟨ao, c, rfl, hl, hC⟩ := hq.opn
    exact QsV.of hl (hc.keptD hg hC fun b2 e2 hn e0 => by
      have h5 := hb hn b2 _ _ (by rw [e2])
      have h6 := hk b2 e0
      omega)
/-- the cells of one element -/
theorem QssK.at {K : Nat} {w : World} {v : Value} {m : List (List Rat)} (h : QssK K w v m) {i k : Nat} {r : List Rat} {q : Rat} (hr : m[i]? = some r) (hq : r[k]? = some q) : ∃ bo off l c g l2 c2 s a l3 c3 b m3 d, v = .slice (some ⟨bo, off, none⟩) l c ∧ l = m.length ∧
    w.cell? ⟨bo, off + i, none⟩ = some (.slice (some ⟨g, 0, none⟩) l2 c2) ∧ l2 = r.length ∧ w.cell? ⟨g, k * 3, none⟩ = some (.bool s) ∧ w.cell? ⟨g, k * 3 + 1, none⟩ = some (.slice a l3 c3) ∧ w.cell? ⟨g, k * 3 + 2, none⟩ = some (.slice b m3 d) ∧ QV w (.agg #[.bool s, .slice a l3 c3, .slice b m3 d]) q := by
  obtain ⟨us, h1, h2, h3, h4⟩ := h
  have hi := (List.getElem?_eq_some_iff.1 hr).1
  have hu : us[i]? = some (us[i]'(by omega)) := List.getElem?_eq_getElem (by omega)
  obtain ⟨ao, c, e, _, _, _, hcells⟩ := h1
  obtain ⟨bo, off, eb, hcell⟩ := hcells i _ hu
  obtain ⟨ao2, c2, e2, _, hC⟩ := (h4 i _ r hu hr).1.opn
  obtain ⟨g, s, a, l3, c3, b, m3, d, e3, y0, y1, y2, hv⟩ := hC k q hq
  refine ⟨bo, off, us.length, c, g, r.length, c2, s, a, l3, c3, b, m3, d, by rw [e, eb], h2, ?_, rfl, y0, y1, y2, hv⟩
  rw [hcell, e2, e3]
/-! ### pairs -/
def flatP : List (Int × Int) → List Value
  | [] => []
  | p :: t => .int .i64 p.1 :: .int .i64 p.2 :: flatP t
theorem flatP_get : ∀ (ps : List (Int × Int)) (i : Nat) (p : Int × Int), ps[i]? = some p → (flatP ps)[i * 2]? = some (.int .i64 p.1) ∧ (flatP ps)[i * 2 + 1]? = some (.int .i64 p.2)
  | [], i, p, h => by simp at h
  | a :: t, 0, p, h => by
    simp only [List.getElem?_cons_zero, Option.some.injEq] at h
    subst h
    exact ⟨rfl, rfl⟩
  | a :: t, i + 1, p, h => by
    have := flatP_get t i p (by simpa using h)
    rw [show (i + 1) * 2 = i * 2 + 2 by omega]
    exact this
end Go.Proofs.YtnfmknjhkpgppaaGreatDoor
/- walk: regret.Play -/
namespace Go.Proofs.YtnfmknjhkpgppaaGreatDoor
open Go.RowKit
set_option linter.unusedVariables false

end Go.Proofs.YtnfmknjhkpgppaaGreatDoor
/- walks: slices.Equal and ContainsFunc of vectors, slices.Equal of pairs, vast; literals of vectors, matrices and pairs -/
namespace Go.Proofs.YtnfmknjhkpgppaaGreatDoor
open Go.RowKit
set_option linter.unusedVariables false

set_option maxHeartbeats 400000 in
set_option maxRecDepth 100000 in
theorem indexFunc_vec (v : Value) (us : List Value) (ps : List Bool) (g : Nat) (caps : Array Value) (w : World) (hv : Row w v us) (hl : ps.length = us.length)
    (eg : ∀ args w, (callFunc g args).run Tryz.prog w = .ok (.enter g args) w)
    (hp : ∀ (i : Nat) (u : Value) (q : Bool) (W : World), us[i]? = some u → ps[i]? = some q → Ext w W → Calls Tryz.prog g (#[u] ++ caps) W fun e W' => e = .returned (.bool q) ∧ Ext W W') :
    Calls Tryz.prog 67 #[v, .func (.func g) #[] caps] w fun e w' => e = .returned (.int .i64 (idxF id ps 0)) ∧ Ext w w' := by
  obtain ⟨ao, c, rfl, _, hlen, _, hc⟩ := hv
  have HP := Lib.hid hp; have HL := Lib.hid hl; have HC := Lib.hid hc
  clear hp hl hc
  go_enter Tryz.func67, Tryz.ntmps67
  go_wp2_with fail
  go_loopw [8] (fun i wr => ∃ k : Nat, k ≤ us.length ∧ i = .int .i64 k ∧ Ext w wr ∧ Hid (idxF id (ps.drop k) k = idxF id ps 0)) (fun i _ => us.length - (intOf i).toNat)
  case atStart => exact ⟨0, Nat.zero_le _, rfl, Ext.refl _, rfl⟩
  case round =>
    obtain ⟨k, hk, rfl, HX, HI⟩ := hrel
    by_cases hlt : k < us.length
    · obtain ⟨x, h1, _, _⟩ := get_lt hlt
      obtain ⟨q, hq1, hq2, _⟩ := get_lt (xs := ps) (k := k) (by rw [HL.out]; exact hlt)
      obtain ⟨b, off, rfl, hc0⟩ := HC.out k x h1.out
      have hcell := HX.cell hc0
      have hcall := HP.out k x q wr h1.out hq1.out HX
      clear hc0
      have HH := Lib.hid hcall; clear hcall
      cases q
      all_goals
        go_wp2_with fail
        refine HH.out.mono ?_
        rintro e w' ⟨rfl, HB⟩
        go_wp2_with fail
      · go_roundw
        case rel => exact ⟨k + 1, by omega, by go_num, HX.trans HB, by rw [← HI.out, hq2.out]; simp [Hid, idxF]⟩
        case measure => simp [intOf]; omega
      · go_ret
        exact ⟨ret_int (by rw [← HI.out, hq2.out]; simp [idxF]), HX.trans HB⟩
    · obtain ⟨h1, _⟩ := get_ge (xs := ps) (k := k) (by rw [HL.out]; exact hlt)
      go_wp2_with fail
      go_ret
      exact ⟨ret_int (by rw [← HI.out, h1.out]; rfl), HX⟩


set_option maxHeartbeats 400000 in
set_option maxRecDepth 100000 in
theorem containsFunc_vec (v : Value) (us : List Value) (ps : List Bool) (g : Nat) (caps : Array Value) (w : World) (hv : Row w v us) (hl : ps.length = us.length)
    (eg : ∀ args w, (callFunc g args).run Tryz.prog w = .ok (.enter g args) w)
    (hp : ∀ (i : Nat) (u : Value) (q : Bool) (W : World), us[i]? = some u → ps[i]? = some q → Ext w W → Calls Tryz.prog g (#[u] ++ caps) W fun e W' => e = .returned (.bool q) ∧ Ext W W')
    (q : Bool) (hq : Hid (ps.any id = q)) :
    Calls Tryz.prog 38 #[v, .func (.func g) #[] caps] w fun e w' => e = .returned (.bool q) ∧ Ext w w' := by
  obtain ⟨i, hi⟩ : ∃ i, Hid (idxF id ps 0 = i) := ⟨_, rfl⟩
  have hge := idxF_ge id ps 0 (Int.le_refl _)
  rw [hi.out, hq.out] at hge
  have HC := indexFunc_vec v us ps g caps w hv hl eg hp
  rw [hi.out] at HC
  have hge2 := Lib.hid hge; clear hge
  have HD := Lib.hid HC; clear HC hp hl
  go_enter Tryz.func38, Tryz.ntmps38
  go_wp2_with fail
  refine HD.out.mono ?_
  rintro e w' ⟨rfl, hx⟩
  go_wp2_with fail
  go_ret
  exact ⟨ret_bool (by have := hge2.out; cases q <;> simp at this <;> simp <;> omega), hx⟩

set_option maxHeartbeats 400000 in
set_option maxRecDepth 100000 in
theorem equal_vec (u v : Value) (xs : List ByteArray) (w : World) (hu : Strs w u xs) (hv : Strs w v xs) :
    Calls Tryz.prog 15 #[u, v] w fun e w' => e = .returned (.bool true) ∧ Ext w w' := by
  obtain ⟨ao, c, rfl, hlen, hc⟩ := hu.open
  obtain ⟨bo, d, rfl, hlen2, hd⟩ := hv.open
  clear hu hv
  have HC := Lib.hid hc
  have HD := Lib.hid hd
  clear hc hd
  go_enter Tryz.func15, Tryz.ntmps15
  go_wp2_with fail
  go_loopw [13] (fun i wr => ∃ k : Nat, k ≤ xs.length ∧ i = .int .i64 k ∧ Ext w wr) (fun i _ => xs.length - (intOf i).toNat)
  case atStart => exact ⟨0, Nat.zero_le _, rfl, Ext.refl _⟩
  case round =>
    obtain ⟨k, hk, rfl, HX⟩ := hrel
    by_cases hlt : k < xs.length
    · obtain ⟨x, h1, h2, h3⟩ := get_lt hlt
      obtain ⟨b, off, rfl, _⟩ := HC.out.at h1
      have hcell := (HC.out.ext HX).at' h1
      obtain ⟨b2, off2, rfl, _⟩ := HD.out.at h1
      have hcell2 := (HD.out.ext HX).at' h1
      have hki : (k : Int) < (xs.length : Int) := by omega
      have hx1 : (x.toList != x.toList) = false := by simp
      have hx2 : (x.toList == x.toList) = true := by simp
      clear hlt
      go_wp2_with fail
      go_quiet (fail)
      go_wp2_with fail
      go_roundw
      case rel => exact ⟨k + 1, by omega, by go_num, HX.drewN _⟩
      case measure => simp [intOf]; omega
    · have hki : (xs.length : Int) ≤ (k : Int) := by omega
      clear hlt
      go_wp2_with fail
      go_ret
      exact ⟨rfl, HX⟩


def vastR (n : Nat) (r : List ByteArray) : Bool := decide (n < r.length) || r.any fun s => decide (12 < s.size)
def vastM (n : Nat) (m : List (List ByteArray)) : Bool := decide (n < m.length) || m.any (vastR n)
def vastB (n : Nat) (ms : List (List (List ByteArray))) : Bool := ms.any (vastM n)
/-- a slice value that reads as matrices -/
def MatsV (w : World) (v : Value) (ms : List (List (List ByteArray))) : Prop := ∃ us, Row w v us ∧ us.length = ms.length ∧ ∀ (i : Nat) u m, us[i]? = some u → ms[i]? = some m → Rows Value.string w u m

set_option maxHeartbeats 1600000 in
set_option maxRecDepth 100000 in
theorem vastClo_any (s : ByteArray) (w : World) (hs : s.size ≤ 9223372036854775806) :
    Calls Tryz.prog 39 #[.string s] w fun e w' => e = .returned (.bool (decide (12 < s.size))) ∧ Ext w w' := by
  have hb : decide ((12 : Int) < (s.size : Int)) = decide (12 < s.size) := by rw [decide_eq_decide]; omega
  rw [← hb]
  clear hb
  go_enter Tryz.func39, Tryz.ntmps39
  go_wp2_with fail
  go_ret
  exact ⟨rfl, Ext.refl _⟩

theorem vastAny (v : Value) (l : List ByteArray) (w : World) (hv : Strs w v l) (hs : ∀ s ∈ l, s.size ≤ 9223372036854775806) (p : Bool) (hp : (l.any fun s => decide (12 < s.size)) = p) :
    Calls Tryz.prog 38 #[v, .func (.func 39) #[] #[]] w fun e w' => e = .returned (.bool p) ∧ Ext w w' :=
  containsFunc_vec v (l.map Value.string) (l.map fun s => decide (12 < s.size)) 39 #[] w hv (by rw [List.length_map, List.length_map]) (fun _ _ => by kernel_rfl)
    (fun i u' q' W2 g1 g2 hW2 => by
      simp only [List.getElem?_map, Option.map_eq_some_iff] at g1 g2
      obtain ⟨y, hy, rfl⟩ := g1
      obtain ⟨z, hz, rfl⟩ := g2
      rw [hy] at hz
      cases hz
      exact vastClo_any y W2 (hs y (List.mem_of_getElem? hy)))
    p (by show _ = _; rw [List.any_map, ← hp]; rfl)

set_option maxHeartbeats 3200000 in
set_option maxRecDepth 100000 in
theorem vast_any (v : Value) (n : Nat) (ms : List (List (List ByteArray))) (w : World) (hv : MatsV w v ms) (hn : n ≤ 1000) (hs : ∀ m ∈ ms, ∀ r ∈ m, ∀ s ∈ r, s.size ≤ 9223372036854775806) (q : Bool) (hq : vastB n ms = q) :
    Calls Tryz.prog 12 #[.int .i64 n, v] w fun e w' => e = .returned (.bool q) ∧ Ext w w' := by
  obtain ⟨us, hr, hul, hel⟩ := hv
  obtain ⟨ao, c, rfl, _, hlen, _, hc⟩ := hr
  have HC := Lib.hid hc
  have HEL := Lib.hid hel
  have HUL := Lib.hid hul
  have HS := Lib.hid hs
  have HQ := Lib.hid hq
  obtain ⟨wo, rfl⟩ : ∃ wo : World, wo = w := ⟨_, rfl⟩
  clear hc hel hul hs hq
  go_enter Tryz.func12, Tryz.ntmps12
  go_wp2_with fail
  go_loopw [11] (fun iv wr => ∃ (i : Nat), i ≤ us.length ∧ iv = .int .i64 i ∧ Ext wo wr ∧ Hid (vastB n (ms.drop i) = q)) (fun iv _ => us.length - (intOf iv).toNat)
  case atStart => exact ⟨0, Nat.zero_le _, rfl, Ext.refl _, by show _ = _; rw [List.drop_zero]; exact HQ.out⟩
  case round =>
    obtain ⟨i, hi, rfl, X, HI⟩ := hrel
    by_cases hlt : i < us.length
    · obtain ⟨u, d1, _, _⟩ := get_lt hlt
      obtain ⟨m, q1, q2, _⟩ := get_lt (xs := ms) (k := i) (by rw [← HUL.out]; exact hlt)
      obtain ⟨b, off, rfl, hc0⟩ := HC.out.ext X i u d1.out
      have hcell : wr.cell? ⟨b, off + i, none⟩ = some u := hc0
      have HRS := Lib.hid (HEL.out i u m d1.out q1.out)
      have HSM := Lib.hid (HS.out m (List.mem_of_getElem? q1.out))
      obtain ⟨us2, hr2, hul2, hel2⟩ := HRS.out
      obtain ⟨ao2, c2, rfl, _, hlen2, _, hcc2⟩ := hr2
      have HC2 := Lib.hid hcc2
      have HEL2 := Lib.hid hel2
      have HUL2 := Lib.hid hul2
      have hki : (i : Int) < (us.length : Int) := by omega
      have hi2 := HI.out
      rw [q2.out] at hi2
      have hv2 : (vastM n m || vastB n (ms.drop (i + 1))) = q := hi2
      clear hc0 hcc2 hel2 hul2 hi2 HRS
      by_cases hbig : n < us2.length
      · have hvm : vastM n m = true := by unfold vastM; rw [decide_eq_true (by rw [← HUL2.out]; exact hbig)]; rfl
        rw [hvm, Bool.true_or] at hv2
        subst hv2
        have hbi : (n : Int) < (us2.length : Int) := by omega
        clear hvm
        go_wp2_with fail
        go_ret
        exact ⟨rfl, X⟩
      have hbi : (us2.length : Int) ≤ (n : Int) := by omega
      have hvm : vastM n m = m.any (vastR n) := by unfold vastM; rw [decide_eq_false (by rw [← HUL2.out]; exact hbig)]; rfl
      rw [hvm] at hv2
      have HV2 := Lib.hid hv2
      obtain ⟨w1, rfl⟩ : ∃ w1 : World, w1 = wr := ⟨_, rfl⟩
      clear hvm hv2 HI
      go_wp2_with fail
      go_loopw [21] (fun jv wr => ∃ (j : Nat), j ≤ us2.length ∧ jv = .int .i64 j ∧ Ext wo wr ∧ Hid (((m.drop j).any (vastR n) || vastB n (ms.drop (i + 1))) = q)) (fun jv _ => us2.length - (intOf jv).toNat)
      case atStart => exact ⟨0, Nat.zero_le _, rfl, X, by show _ = _; rw [List.drop_zero]; exact HV2.out⟩
      case round =>
        clear HV2 X hcell
        obtain ⟨j, hj, rfl, X, HI⟩ := hrel
        by_cases hlt2 : j < us2.length
        · obtain ⟨x, d3, _, _⟩ := get_lt hlt2
          obtain ⟨r, q3, q4, _⟩ := get_lt (xs := m) (k := j) (by rw [← HUL2.out]; exact hlt2)
          obtain ⟨b2, off2, rfl, hc0⟩ := HC2.out.ext X j x d3.out
          have hcell : wr.cell? ⟨b2, off2 + j, none⟩ = some x := hc0
          have HRR := HEL2.out j x r d3.out q3.out
          have HVA := Lib.hid (fun W (hx : Ext wo W) p hp => vastAny x r W (HRR.ext hx) (HSM.out r (List.mem_of_getElem? q3.out)) p hp)
          obtain ⟨ao3, c3, rfl, _, _⟩ := HRR.open
          have hkj : (j : Int) < (us2.length : Int) := by omega
          have hi2 := HI.out
          rw [q4.out] at hi2
          have hv2 : ((vastR n r || (m.drop (j + 1)).any (vastR n)) || vastB n (ms.drop (i + 1))) = q := hi2
          clear hc0 hi2 HRR HI
          by_cases hbg : n < r.length
          · have hvr : vastR n r = true := by unfold vastR; rw [decide_eq_true hbg]; rfl
            rw [hvr, Bool.true_or, Bool.true_or] at hv2
            subst hv2
            have hbi2 : (n : Int) < (r.length : Int) := by omega
            clear hvr HVA
            go_wp2_with fail
            go_ret
            exact ⟨by first | rfl | simp, X⟩
          have hbi2 : (r.length : Int) ≤ (n : Int) := by omega
          have hvr : vastR n r = r.any fun s => decide (12 < s.size) := by unfold vastR; rw [decide_eq_false hbg]; rfl
          rw [hvr] at hv2
          obtain ⟨p, hp⟩ : ∃ p, (r.any fun s => decide (12 < s.size)) = p := ⟨_, rfl⟩
          have HVA := Lib.hid (fun W (hx : Ext wo W) => HVA.out W hx p hp)
          rw [hp] at hv2
          clear hvr hp
          cases p with
          | true =>
            rw [Bool.true_or, Bool.true_or] at hv2
            subst hv2
            go_wp2_with fail
            refine (HVA.out _ X).mono ?_
            rintro e w4 ⟨rfl, X4⟩
            go_wp2_with fail
            go_ret
            exact ⟨by first | rfl | simp, X.trans X4⟩
          | false =>
            rw [Bool.false_or] at hv2
            have HV3 := Lib.hid hv2
            clear hv2
            go_wp2_with fail
            refine (HVA.out _ X).mono ?_
            rintro e w4 ⟨rfl, X4⟩
            go_wp2_with fail
            go_roundw
            case rel => exact ⟨j + 1, by omega, by go_num, X.trans X4, HV3⟩
            case measure => simp [intOf] <;> omega
        · have hjl : m.length = j := by have := HUL2.out; omega
          have hi2 := HI.out
          rw [← hjl, List.drop_length] at hi2
          have HI3 : Hid (vastB n (ms.drop (i + 1)) = q) := hi2
          clear hjl hi2 HI
          go_wp2_with fail
          go_roundw
          case rel => exact ⟨i + 1, by omega, by go_num, X, HI3⟩
          case measure => simp [intOf] <;> omega
    · have hil : ms.length = i := by have := HUL.out; omega
      have hi2 := HI.out
      rw [← hil, List.drop_length] at hi2
      have hqf : q = false := hi2.symm
      subst hqf
      clear hil hi2 HI
      go_wp2_with fail
      go_ret
      exact ⟨rfl, X⟩

/-- a literal of two rows -/
theorem lit_rows2 (w : World) (e : TypeId) {u v : Value} {r s : List ByteArray} (h1 : Strs w u r) (h2 : Strs w v s) (k : Nat) (hk : k = w.heap.size) : Rows Value.string (w.alloc (.cells #[u, v] e)) (.slice (some ⟨k, 0, none⟩) 2 2) [r, s] := by
  refine rows_lit (enc := Value.string) [u, v] [r, s] k hk (by simp) rfl fun i x xs a b => ?_
  match i, a, b with
  | 0, a, b =>
    simp only [List.getElem?_cons_zero, Option.some.injEq] at a b
    subst a
    subst b
    exact h1
  | 1, a, b =>
    simp only [List.getElem?_cons_succ, List.getElem?_cons_zero, Option.some.injEq] at a b
    subst a
    subst b
    exact h2
  | i + 2, a, b => simp at a
end Go.Proofs.YtnfmknjhkpgppaaGreatDoor
/- walk: regretFact -/
namespace Go.Proofs.YtnfmknjhkpgppaaGreatDoor
open Go.RowKit
set_option linter.unusedVariables false

theorem small_rows {m : List (List ByteArray)} (h : (m.all fun l => l.all fun s => decide (s.size ≤ 100)) = true) : ∀ l ∈ m, ∀ s ∈ l, s.size ≤ 9223372036854775806 := fun l hl s hs => by
  have := List.all_eq_true.1 (List.all_eq_true.1 h l hl) s hs
  simp only [decide_eq_true_eq] at this
  omega
theorem small_row {l : List ByteArray} (h : (l.all fun s => decide (s.size ≤ 100)) = true) : ∀ s ∈ l, s.size ≤ 9223372036854775806 := fun s hs => by
  have := List.all_eq_true.1 h s hs
  simp only [decide_eq_true_eq] at this
  omega

end Go.Proofs.YtnfmknjhkpgppaaGreatDoor
