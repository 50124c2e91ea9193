/- walks of the package deal: Stage, check, Commit, Cheat, New -/
import Derived.Test.YtllhgkacbpgemaaDeal3
namespace Go.Proofs.Ytllhgkacbpgemaa
open Go.RowKit

/-- nothing that was there is written but the blocks tb and pb -/
structure Kp (tb pb : Nat) (w w' : World) : Prop where
  os : w'.os = w.os
  tape : w'.tape = w.tape
  output : w'.output = w.output
  size : w.heap.size ≤ w'.heap.size
  block : ∀ k, k < w.heap.size → k ≠ tb → k ≠ pb → w'.heap[k]? = w.heap[k]?

theorem Kp.of {tb pb : Nat} {w w' : World} (h : Ext w w') : Kp tb pb w w' := ⟨h.os, h.tape, h.output, h.size, fun k hk _ _ => h.block k hk⟩
theorem Kp.refl (tb pb : Nat) (w : World) : Kp tb pb w w := .of (Ext.refl w)
theorem Kp.trans {tb pb : Nat} {a b c : World} (h : Kp tb pb a b) (g : Kp tb pb b c) : Kp tb pb a c :=
  ⟨g.os.trans h.os, g.tape.trans h.tape, g.output.trans h.output, Nat.le_trans h.size g.size, fun k hk h1 h2 => (g.block k (Nat.lt_of_lt_of_le hk h.size) h1 h2).trans (h.block k hk h1 h2)⟩
theorem Kp.ext {tb pb : Nat} {w0 w w' : World} (h : Kp tb pb w w') (h0 : Ext w0 w) (ht : w0.heap.size ≤ tb) (hp : w0.heap.size ≤ pb) : Ext w0 w' :=
  ⟨h.os.trans h0.os, h.tape.trans h0.tape, h.output.trans h0.output, Nat.le_trans h0.size h.size, fun k hk => (h.block k (Nat.lt_of_lt_of_le hk h0.size) (by omega) (by omega)).trans (h0.block k hk)⟩
theorem Kp.grown {tb pb : Nat} {w w' : World} {k : Nat} (h : w.grownBy w' (some k)) (hk : k = tb ∨ k = pb) : Kp tb pb w w' :=
  ⟨h.os, h.tape, h.output, h.size, fun j hj h1 h2 => h.block j hj (by simp; rcases hk with rfl | rfl <;> omega)⟩
theorem Kp.own {tb pb : Nat} {w w' : World} {B : Nat} {e : TypeId} {sz : Nat} {v : Value} {n : Nat} {vs : List Value} (h : w.ownsRow B e sz v n vs) (hk : Kp tb pb w w') (hne : ∀ k, v.ownBlock = some k → k ≠ tb ∧ k ≠ pb) : w'.ownsRow B e sz v n vs := by
  refine ⟨h.1, ?_⟩
  rcases h.2 with h2 | ⟨g, cap, cur, rfl, r2, r3, r4⟩
  · exact .inl h2
  · obtain ⟨h1, h2⟩ := hne g rfl
    exact .inr ⟨g, cap, cur, rfl, r2, (hk.block g (Array.getElem?_eq_some_iff.1 r3).1 h1 h2).trans r3, r4⟩
theorem Kp.row {tb pb : Nat} {w w' : World} {v : Value} {vs : List Value} (h : Row w v vs) (hk : Kp tb pb w w') (hne : vs = [] ∨ ∀ k, v.ownBlock = some k → k ≠ tb ∧ k ≠ pb) : Row w' v vs := by
  obtain ⟨ao, c, h1, h2, h3, h4, h5⟩ := h
  refine ⟨ao, c, h1, h2, h3, h4, fun i u hu => ?_⟩
  obtain ⟨b, off, rfl, hc⟩ := h5 i u hu
  refine ⟨b, off, rfl, ?_⟩
  rcases hne with rfl | hne
  · simp at hu
  · obtain ⟨e1, e2⟩ := hne b (by rw [h1]; rfl)
    have hb := World.block_lt_of_cell? w _ hc
    rw [← hc]
    unfold World.cell?
    simp only [hk.block b hb e1 e2]

set_option maxHeartbeats 400000 in
set_option maxRecDepth 100000 in
theorem containsFunc_players (B tb pb : Nat) (n : Int) (l : List PV) (cheat : Int) (ps : List Bool) (g : Nat) (w : World) (hv : Tab w B tb pb n l cheat) (hl : ps.length = l.length)
    (eg : ∀ args w, (callFunc g args).run Try.prog w = .ok (.enter g args) w)
    (hp : ∀ (i : Nat) (p : PV) (q : Bool) (W : World), l[i]? = some p → ps[i]? = some q → Calls Try.prog g #[.agg #[.bool p.sealed, .bool p.opened, .int .u64 p.mark, p.draws]] W fun e W' => e = .returned (.bool q) ∧ Ext W W')
    (q : Bool) (hq : Hid (ps.any id = q)) :
    Calls Try.prog 76 #[.slice (some ⟨pb, 0, none⟩) l.length l.length, .func (.func g) #[] #[]] w fun e w' => e = .returned (.bool q) ∧ Ext w w' := by
  obtain ⟨i, hi⟩ : ∃ i, Hid (idxF id ps 0 = i) := ⟨_, rfl⟩
  have hge := idxF_ge id ps 0 (Int.le_refl _)
  rw [hi.out, hq.out] at hge
  have HC := indexFunc_players B tb pb n l cheat ps g w hv hl eg hp
  rw [hi.out] at HC
  have hge2 := Lib.hid hge; clear hge
  have HD := Lib.hid HC; clear HC hp hl hv
  go_enter Try.func76, Try.ntmps76
  go_wp2_with fail
  refine HD.out.mono ?_
  rintro e w' ⟨rfl, hx⟩
  go_wp2_with fail
  go_ret
  exact ⟨ret_bool (by have := hge2.out; cases q <;> simp at this <;> simp <;> omega), hx⟩

/-- the stage -/
def stageF (l : List PV) (cheat : Int) : Int := if 0 ≤ cheat then 3 else if l.any (fun p => !p.sealed) = true then 0 else if l.any (fun p => !p.opened) = true then 1 else 2

set_option maxHeartbeats 800000 in
set_option maxRecDepth 100000 in
theorem stage_any (B tb pb : Nat) (n : Int) (l : List PV) (cheat : Int) (w : World) (hv : Tab w B tb pb n l cheat) :
    Calls Try.prog 56 #[.pointer (some ⟨tb, 0, none⟩)] w fun e w' => e = .returned (.int .i64 (stageF l cheat)) ∧ Ext w w' := by
  have c1 := hv.c1; have c2 := hv.c2
  have HS := Lib.hid (fun (W : World) (hW : Ext w W) q hq => containsFunc_players B tb pb n l cheat (l.map fun p => !p.sealed) 77 W (hv.ext hW) (by simp) (fun _ _ => by kernel_rfl)
    (fun i p q W h1 h2 => by
      rw [List.getElem?_map, h1] at h2
      obtain rfl := Option.some.inj h2
      exact stage1_any _ _ _ _ W) q hq)
  have HO := Lib.hid (fun (W : World) (hW : Ext w W) q hq => containsFunc_players B tb pb n l cheat (l.map fun p => !p.opened) 78 W (hv.ext hW) (by simp) (fun _ _ => by kernel_rfl)
    (fun i p q W h1 h2 => by
      rw [List.getElem?_map, h1] at h2
      obtain rfl := Option.some.inj h2
      exact stage2_any _ _ _ _ W) q hq)
  clear hv
  by_cases h1 : 0 ≤ cheat
  · have hq : stageF l cheat = 3 := by simp [stageF, h1]
    rw [hq]
    go_enter Try.func56, Try.ntmps56
    go_wp2_with fail
    go_ret
    exact ⟨rfl, Ext.refl _⟩
  · obtain ⟨b1, hb1⟩ : ∃ b, Hid (l.any (fun p => !p.sealed) = b) := ⟨_, rfl⟩
    obtain ⟨b2, hb2⟩ : ∃ b, Hid (l.any (fun p => !p.opened) = b) := ⟨_, rfl⟩
    have hq : stageF l cheat = if b1 = true then 0 else if b2 = true then 1 else 2 := by simp [stageF, h1, hb1.out, hb2.out]
    rw [hq]
    have h2 : cheat < 0 := by omega
    clear h1 hq
    cases b1
    · go_enter Try.func56, Try.ntmps56
      go_wp2_with fail
      refine (HS.out _ (Ext.refl _) false (by show _ = _; rw [List.any_map]; exact hb1.out)).mono ?_
      rintro e w1 ⟨rfl, hx⟩
      have d1 := hx.cell c1
      cases b2
      · go_wp2_with fail
        refine (HO.out _ (by exact hx) false (by show _ = _; rw [List.any_map]; exact hb2.out)).mono ?_
        rintro e w2 ⟨rfl, hx2⟩
        go_wp2_with fail
        go_ret
        exact ⟨rfl, hx.trans hx2⟩
      · go_wp2_with fail
        refine (HO.out _ (by exact hx) true (by show _ = _; rw [List.any_map]; exact hb2.out)).mono ?_
        rintro e w2 ⟨rfl, hx2⟩
        go_wp2_with fail
        go_ret
        exact ⟨rfl, hx.trans hx2⟩
    · go_enter Try.func56, Try.ntmps56
      go_wp2_with fail
      refine (HS.out _ (Ext.refl _) true (by show _ = _; rw [List.any_map]; exact hb1.out)).mono ?_
      rintro e w1 ⟨rfl, hx⟩
      go_wp2_with fail
      go_ret
      exact ⟨rfl, hx⟩
end Go.Proofs.Ytllhgkacbpgemaa
