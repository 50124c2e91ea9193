/- texts merged: RgI RgJ RgK RgL RgM RgN -/
import Derived.Test.YtkfheeffbombhaaGreatDoorRgX
import Derived.OwnWalk
import Derived.Test.YtkfheeffbombhaaGreatDoorRtI
import Derived.Test.YtkfheeffbombhaaGreatDoorTwS
/- walks: regret.Average, Bounds -/
namespace Go.Proofs.YtkfheeffbombhaaGreatDoor
open Go.RowKit
set_option linter.unusedVariables false

end Go.Proofs.YtkfheeffbombhaaGreatDoor
/- walks: rat.In as an own slice; regret.Match -/
namespace Go.Proofs.YtkfheeffbombhaaGreatDoor
open Go.RowKit
set_option linter.unusedVariables false

end Go.Proofs.YtkfheeffbombhaaGreatDoor
/- own slices that are filled; rows below a border; append of pairs -/
namespace Go.Proofs.YtkfheeffbombhaaGreatDoor
open Go.RowKit
set_option linter.unusedVariables false

/-- an own slice of which some elements are known -/
def QsG (w : World) (B : Nat) (v : Value) (qs : List (Option Rat)) : Prop := ∃ ts : List TV, w.ownsRow B 99 3 v qs.length (flatT ts) ∧ Clean w v ∧ ts.length = qs.length ∧ ∀ (i : Nat) t q, ts[i]? = some t → qs[i]? = some (some q) → QV w t.v q
theorem QsG.ext {w w' : World} {B : Nat} {v : Value} {qs : List (Option Rat)} (h : QsG w B v qs) (hx : Ext w w') : QsG w' B v qs := by
  obtain ⟨ts, h1, h2, h3, h4⟩ := h
  exact ⟨ts, own_ext h1 hx, h2.ext hx, h3, fun i t q a b => (h4 i t q a b).ext hx⟩
theorem QsG.clean {w : World} {B : Nat} {v : Value} {qs : List (Option Rat)} (h : QsG w B v qs) : Clean w v := by
  obtain ⟨ts, h1, h2, h3, h4⟩ := h
  exact h2
theorem QsG.kept {w w' : World} {B : Nat} {v u : Value} {qs : List (Option Rat)} (hc : Clean w v) (hg : w.grownBy w' v.ownBlock) (h : QsG w B u qs) (hne : u.ownBlock = none ∨ u.ownBlock ≠ v.ownBlock) : QsG w' B u qs := by
  obtain ⟨ts, h1, h2, h3, h4⟩ := h
  refine ⟨ts, own_kept h1 hg (hne.elim .inr .inl), fun g hgb => ?_, h3, fun i t q a b => hc.keptQ hg (h4 i t q a b)⟩
  obtain ⟨cur, e, fr, hb, hn⟩ := h2 g hgb
  refine ⟨cur, e, fr, ?_, hn⟩
  rw [hg.block g (Array.getElem?_eq_some_iff.1 hb).1 (fun e => ?_)]
  · exact hb
  · rcases hne with h | h
    · rw [h] at hgb; cases hgb
    · exact h (by rw [hgb, e])
theorem flatT_repl : ∀ n, flatT (List.replicate n ((.bool false, .slice none 0 0, .slice none 0 0) : TV)) = (madeCells #[.bool false, .slice none 0 0, .slice none 0 0] (n * 3)).toList
  | n => by
    apply List.ext_getElem?
    intro i
    have hl : (flatT (List.replicate n ((.bool false, .slice none 0 0, .slice none 0 0) : TV))).length = n * 3 := by rw [flatT_len, List.length_replicate]
    by_cases hi : i < n * 3
    · have hk : i / 3 < n := by omega
      have ht : (List.replicate n ((.bool false, .slice none 0 0, .slice none 0 0) : TV))[i / 3]? = some (.bool false, .slice none 0 0, .slice none 0 0) := by rw [List.getElem?_replicate, if_pos hk]
      obtain ⟨g0, g1, g2⟩ := flatT_get _ _ _ ht
      have hm : (madeCells #[.bool false, .slice none 0 0, .slice none 0 0] (n * 3)).toList[i]? = some (#[Value.bool false, .slice none 0 0, .slice none 0 0][i % 3]!) := by
        rw [List.getElem?_eq_getElem (by simp [madeCells]; exact hi)]
        simp [madeCells]
      rw [hm]
      rcases (show i % 3 = 0 ∨ i % 3 = 1 ∨ i % 3 = 2 by omega) with h | h | h
      · rw [show i = i / 3 * 3 by omega, g0]; rw [show i / 3 * 3 % 3 = 0 by omega]; rfl
      · rw [show i = i / 3 * 3 + 1 by omega]; rw [show (i / 3 * 3 + 1) % 3 = 1 by omega]; rw [g1]; rfl
      · rw [show i = i / 3 * 3 + 2 by omega]; rw [show (i / 3 * 3 + 2) % 3 = 2 by omega]; rw [g2]; rfl
    · rw [List.getElem?_eq_none (by rw [hl]; omega), List.getElem?_eq_none (by simp [madeCells]; omega)]
/-- a slice that is made -/
theorem QsG.made {w : World} {B g n : Nat} (h : w.ownsRow B 99 3 (.slice (some ⟨g, 0, none⟩) n n) n (madeCells #[.bool false, .slice none 0 0, .slice none 0 0] (n * 3)).toList) : QsG w B (.slice (some ⟨g, 0, none⟩) n n) (List.replicate n none) := by
  rw [← flatT_repl] at h
  have hc := clean_full h fun x hx d => by
    obtain ⟨i, hi⟩ := List.mem_iff_getElem?.1 hx
    have hl := flatT_len (List.replicate n ((.bool false, .slice none 0 0, .slice none 0 0) : TV))
    rw [List.length_replicate] at hl
    have hlt := (List.getElem?_eq_some_iff.1 hi).1
    have ht : (List.replicate n ((.bool false, .slice none 0 0, .slice none 0 0) : TV))[i / 3]? = some (.bool false, .slice none 0 0, .slice none 0 0) := by rw [List.getElem?_replicate, if_pos (by omega)]
    obtain ⟨g0, g1, g2⟩ := flatT_get _ _ _ ht
    rcases (show i % 3 = 0 ∨ i % 3 = 1 ∨ i % 3 = 2 by omega) with h | h | h
    · rw [show i = i / 3 * 3 by omega, g0] at hi; cases hi; simp [encD]
    · rw [show i = i / 3 * 3 + 1 by omega, g1] at hi; cases hi; simp [encD]
    · rw [show i = i / 3 * 3 + 2 by omega, g2] at hi; cases hi; simp [encD]
  refine ⟨_, by rw [List.length_replicate]; exact h, hc, by rw [List.length_replicate, List.length_replicate], fun i t q a b => ?_⟩
  rw [List.getElem?_replicate] at b
  split at b <;> simp at b
theorem QsG.stored {w : World} {B g n cap : Nat} {qs : List (Option Rat)} (h : QsG w B (.slice (some ⟨g, 0, none⟩) n cap) qs) {i : Nat} (hi : i < qs.length) : ∃ x y z, StI w g i x y z ∧
    ∀ s a l c b m d q, QV w (.agg #[.bool s, .slice a l c, .slice b m d]) q → ∃ w', (((w.setCell ⟨g, i * 3, none⟩ (.bool s)).setCell ⟨g, i * 3 + 1, none⟩ (.slice a l c)).setCell ⟨g, i * 3 + 2, none⟩ (.slice b m d)) = w' ∧ w.grownBy w' (some g) ∧ QsG w' B (.slice (some ⟨g, 0, none⟩) n cap) (qs.set i (some q)) := by
  obtain ⟨ts, h1, h2, h3, h4⟩ := h
  have hn : n = qs.length := by
    rcases h1.2 with ⟨e, _⟩ | ⟨g2, cap2, cur, e, _⟩
    · simp at e
    · simp only [Value.slice.injEq] at e; exact e.2.1
  subst hn
  have s1 := fun a => h1.stored (i * 3) a
  have s2 := fun a b => (s1 a).1.stored (i * 3 + 1) b
  have s3 := fun a b c => (s2 a b).1.stored (i * 3 + 2) c
  have hti : ts[i]? = some (ts[i]'(by omega)) := List.getElem?_eq_getElem (by omega)
  obtain ⟨p0, p1, p2⟩ := flatT_get ts i _ hti
  have hfl := flatT_len ts
  have cc : ∀ {w1 : World} {xs : List Value} (_ : w1.ownsRow B 99 3 (.slice (some ⟨g, 0, none⟩) qs.length cap) qs.length xs) {j : Nat} {u : Value}, xs[j]? = some u → w1.cell? ⟨g, j, none⟩ = some u := by
    intro w1 xs hh j u hj
    have := hh.cells (g := g) rfl j u hj
    rwa [Addr.add_lit, Nat.zero_add] at this
  refine ⟨_, _, _, ⟨h1.frozenAt (i * 3), cc h1 p0, fun a => (s1 a).1.frozenAt (i * 3 + 1), fun a => cc (s1 a).1 (by rw [List.getElem?_set_ne (by omega)]; exact p1), fun a b => (s2 a b).1.frozenAt (i * 3 + 2), fun a b => cc (s2 a b).1 (by rw [List.getElem?_set_ne (by omega), List.getElem?_set_ne (by omega)]; exact p2)⟩, ?_⟩
  intro s a l c b m d q hq
  have hgr := Lib.grownBy_trans (Lib.grownBy_trans (s1 (.bool s)).2 (s2 (.bool s) (.slice a l c)).2) (s3 (.bool s) (.slice a l c) (.slice b m d)).2
  have hrow := (s3 (.bool s) (.slice a l c) (.slice b m d)).1
  refine ⟨_, rfl, hgr, ts.set i (.bool s, .slice a l c, .slice b m d), ?_, ?_, by simp [h3], fun j t q2 hj hq2 => ?_⟩
  · rw [flatT_set _ _ _ _ _ (by omega), List.length_set]; exact hrow
  · intro k hk
    simp only [Value.ownBlock, Option.some.injEq] at hk
    subst hk
    rcases hrow.2 with ⟨e, _⟩ | ⟨g2, cap2, cur, e, _, hgc, _, hcm, hcs, htk⟩
    · simp at e
    · simp only [Value.slice.injEq, Option.some.injEq, Addr.mk.injEq, and_true, true_and] at e
      obtain ⟨rfl, rfl⟩ := e
      refine ⟨cur, _, _, hgc, ?_⟩
      obtain ⟨cur0, e0, fr0, hb0, hn0⟩ := h2 g rfl
      intro j d2 hj
      have hcell : (((w.setCell ⟨g, i * 3, none⟩ (.bool s)).setCell ⟨g, i * 3 + 1, none⟩ (.slice a l c)).setCell ⟨g, i * 3 + 2, none⟩ (.slice b m d)).cell? ⟨g, j, none⟩ = some (encD d2) := by rw [cell_of_obj' hgc]; exact hj
      by_cases j2 : j = i * 3 + 2
      · have := cc hrow (j := j) (u := .slice b m d) (by rw [j2, List.getElem?_set_self (by rw [List.length_set, List.length_set]; omega)])
        rw [hcell] at this
        simp [encD] at this
      · by_cases j1 : j = i * 3 + 1
        · have := cc hrow (j := j) (u := .slice a l c) (by rw [List.getElem?_set_ne (by omega), j1, List.getElem?_set_self (by rw [List.length_set]; omega)])
          rw [hcell] at this
          simp [encD] at this
        · by_cases j0 : j = i * 3
          · have := cc hrow (j := j) (u := .bool s) (by rw [List.getElem?_set_ne (by omega), List.getElem?_set_ne (by omega), j0, List.getElem?_set_self (by omega)])
            rw [hcell] at this
            simp [encD] at this
          · have hold : w.cell? ⟨g, j, none⟩ = some (encD d2) := by
              rw [← hcell]
              rw [World.cell?_setCell_other, World.cell?_setCell_other, World.cell?_setCell_other]
              all_goals (intro e; simp at e <;> omega)
            rw [cell_of_obj' hb0] at hold
            exact hn0 j d2 hold
  · by_cases hji : j = i
    · subst hji
      rw [List.getElem?_set_self (by omega)] at hj
      rw [List.getElem?_set_self hi] at hq2
      cases hj
      cases hq2
      exact h2.keptQ (v := .slice (some ⟨g, 0, none⟩) qs.length cap) hgr hq
    · rw [List.getElem?_set_ne (by omega)] at hj hq2
      exact h2.keptQ (v := .slice (some ⟨g, 0, none⟩) qs.length cap) hgr (h4 j t q2 hj hq2)
/-- rows whose blocks lie below a border -/
def QssK (K : Nat) (w : World) (v : Value) (m : List (List Rat)) : Prop := ∃ us, Row w v us ∧ us.length = m.length ∧ (us ≠ [] → ∀ b off l c, v = .slice (some ⟨b, off, none⟩) l c → b < K) ∧
  ∀ (i : Nat) u qs, us[i]? = some u → m[i]? = some qs → QsV w u qs ∧ (qs ≠ [] → ∀ b l c, u = .slice (some ⟨b, 0, none⟩) l c → b < K)
theorem QssK.ext {K : Nat} {w w' : World} {v : Value} {m : List (List Rat)} (h : QssK K w v m) (hx : Ext w w') : QssK K w' v m := by
  obtain ⟨us, h1, h2, h3, h4⟩ := h
  exact ⟨us, h1.ext hx, h2, h3, fun i u qs a b => ⟨(h4 i u qs a b).1.ext hx, (h4 i u qs a b).2⟩⟩
theorem QssK.kept {K : Nat} {w w' : World} {v u : Value} {m : List (List Rat)} (hc : Clean w v) (hg : w.grownBy w' v.ownBlock) (hk : ∀ k, v.ownBlock = some k → K ≤ k) (h : QssK K w u m) : QssK K w' u m := by
  obtain ⟨us, h1, h2, h3, h4⟩ := h
  refine ⟨us, ?_, h2, h3, fun i x qs a b => ⟨?_, (h4 i x qs a b).2⟩⟩
  · obtain ⟨ao, c, e, p1, p2, p3, hcells⟩ := h1
    refine ⟨ao, c, e, p1, p2, p3, fun i x hx => ?_⟩
    obtain ⟨b, off, eb, hcell⟩ := hcells i x hx
    have hb := h3 (by intro e0; rw [e0] at hx; simp at hx) b off _ _ (by rw [e, eb])
    exact ⟨b, off, eb, hg.cell hcell (fun e0 => by have := hk b e0.symm; omega)⟩
  · obtain ⟨hq, hb⟩ := h4 i x qs a b
    obtain ⟨ao, c, rfl, hl, hC⟩ := hq.opn
    exact QsV.of hl (hc.keptD hg hC fun b2 e2 hn e0 => by
      have h5 := hb hn b2 _ _ (by rw [e2])
      have h6 := hk b2 e0
      omega)
/-- the cells of one element -/
theorem QssK.at {K : Nat} {w : World} {v : Value} {m : List (List Rat)} (h : QssK K w v m) {i k : Nat} {r : List Rat} {q : Rat} (hr : m[i]? = some r) (hq : r[k]? = some q) : ∃ bo off l c g l2 c2 s a l3 c3 b m3 d, v = .slice (some ⟨bo, off, none⟩) l c ∧ l = m.length ∧
    w.cell? ⟨bo, off + i, none⟩ = some (.slice (some ⟨g, 0, none⟩) l2 c2) ∧ l2 = r.length ∧ w.cell? ⟨g, k * 3, none⟩ = some (.bool s) ∧ w.cell? ⟨g, k * 3 + 1, none⟩ = some (.slice a l3 c3) ∧ w.cell? ⟨g, k * 3 + 2, none⟩ = some (.slice b m3 d) ∧ QV w (.agg #[.bool s, .slice a l3 c3, .slice b m3 d]) q := by
  obtain ⟨us, h1, h2, h3, h4⟩ := h
  have hi := (List.getElem?_eq_some_iff.1 hr).1
  have hu : us[i]? = some (us[i]'(by omega)) := List.getElem?_eq_getElem (by omega)
  obtain ⟨ao, c, e, _, _, _, hcells⟩ := h1
  obtain ⟨bo, off, eb, hcell⟩ := hcells i _ hu
  obtain ⟨ao2, c2, e2, _, hC⟩ := (h4 i _ r hu hr).1.opn
  obtain ⟨g, s, a, l3, c3, b, m3, d, e3, y0, y1, y2, hv⟩ := hC k q hq
  refine ⟨bo, off, us.length, c, g, r.length, c2, s, a, l3, c3, b, m3, d, by rw [e, eb], h2, ?_, rfl, y0, y1, y2, hv⟩
  rw [hcell, e2, e3]
/-! ### pairs -/
def flatP : List (Int × Int) → List Value
  | [] => []
  | p :: t => .int .i64 p.1 :: .int .i64 p.2 :: flatP t
theorem flatP_get : ∀ (ps : List (Int × Int)) (i : Nat) (p : Int × Int), ps[i]? = some p → (flatP ps)[i * 2]? = some (.int .i64 p.1) ∧ (flatP ps)[i * 2 + 1]? = some (.int .i64 p.2)
  | [], i, p, h => by simp at h
  | a :: t, 0, p, h => by
    simp only [List.getElem?_cons_zero, Option.some.injEq] at h
    subst h
    exact ⟨rfl, rfl⟩
  | a :: t, i + 1, p, h => by
    have := flatP_get t i p (by simpa using h)
    rw [show (i + 1) * 2 = i * 2 + 2 by omega]
    exact this
def PrsO (w : World) (B : Nat) (v : Value) (ps : List (Int × Int)) : Prop := w.ownsRow B 72 2 v ps.length (flatP ps) ∧ Clean w v
theorem PrsO.nil (w : World) (B : Nat) : PrsO w B (.slice none 0 0) [] := ⟨World.ownsRow_nil _ _ _ _, Clean.nil _⟩
theorem PrsO.ext {w w' : World} {B : Nat} {v : Value} {ps : List (Int × Int)} (h : PrsO w B v ps) (hx : Ext w w') : PrsO w' B v ps := ⟨own_ext h.1 hx, h.2.ext hx⟩
theorem PrsO.kept {w w' : World} {B : Nat} {v u : Value} {ps : List (Int × Int)} (hg : w.grownBy w' v.ownBlock) (h : PrsO w B u ps) (hne : u.ownBlock = none ∨ u.ownBlock ≠ v.ownBlock) : PrsO w' B u ps := by
  refine ⟨own_kept h.1 hg (hne.elim .inr .inl), fun g hgb => ?_⟩
  obtain ⟨cur, e, fr, hb, hn⟩ := h.2 g hgb
  refine ⟨cur, e, fr, ?_, hn⟩
  rw [hg.block g (Array.getElem?_eq_some_iff.1 hb).1 (fun e => ?_)]
  · exact hb
  · rcases hne with h | h
    · rw [h] at hgb; cases hgb
    · exact h (by rw [hgb, e])
theorem PrsO.toV {w : World} {B : Nat} {v : Value} {ps : List (Int × Int)} (h : PrsO w B v ps) (hl : ps.length ≤ 17592186044416) : Prs w v ps := by
  rcases h.1.2 with ⟨rfl, h0⟩ | ⟨g, cap, cur, rfl, hb, hg, _⟩
  · have : ps = [] := List.eq_nil_of_length_eq_zero h0
    subst this
    exact ⟨none, 0, rfl, by simp, fun i p hp => by simp at hp⟩
  · refine ⟨_, _, rfl, hl, fun i p hp => ?_⟩
    obtain ⟨g0, g1⟩ := flatP_get ps i p hp
    have c0 := h.1.cells (g := g) rfl _ _ g0
    have c1 := h.1.cells (g := g) rfl _ _ g1
    rw [Addr.add_lit, Nat.zero_add] at c0 c1
    exact ⟨g, 0, rfl, by rw [Nat.zero_add]; exact c0, by rw [Nat.zero_add]; exact c1⟩
end Go.Proofs.YtkfheeffbombhaaGreatDoor
/- walk: regret.Play -/
namespace Go.Proofs.YtkfheeffbombhaaGreatDoor
open Go.RowKit
set_option linter.unusedVariables false

end Go.Proofs.YtkfheeffbombhaaGreatDoor
/- walks: slices.Equal and ContainsFunc of vectors, slices.Equal of pairs, vast; literals of vectors, matrices and pairs -/
namespace Go.Proofs.YtkfheeffbombhaaGreatDoor
open Go.RowKit
set_option linter.unusedVariables false

set_option maxHeartbeats 400000 in
set_option maxRecDepth 100000 in
theorem equal_vec (u v : Value) (xs : List ByteArray) (w : World) (hu : Strs w u xs) (hv : Strs w v xs) :
    Calls Tryz.prog 41 #[u, v] w fun e w' => e = .returned (.bool true) ∧ Ext w w' := by
  obtain ⟨ao, c, rfl, hlen, hc⟩ := hu.open
  obtain ⟨bo, d, rfl, hlen2, hd⟩ := hv.open
  clear hu hv
  have HC := Lib.hid hc
  have HD := Lib.hid hd
  clear hc hd
  go_enter Tryz.func41, Tryz.ntmps41
  go_wp2_with fail
  go_loopw [13] (fun i wr => ∃ k : Nat, k ≤ xs.length ∧ i = .int .i64 k ∧ Ext w wr) (fun i _ => xs.length - (intOf i).toNat)
  case atStart => exact ⟨0, Nat.zero_le _, rfl, Ext.refl _⟩
  case round =>
    obtain ⟨k, hk, rfl, HX⟩ := hrel
    by_cases hlt : k < xs.length
    · obtain ⟨x, h1, h2, h3⟩ := get_lt hlt
      obtain ⟨b, off, rfl, _⟩ := HC.out.at h1
      have hcell := (HC.out.ext HX).at' h1
      obtain ⟨b2, off2, rfl, _⟩ := HD.out.at h1
      have hcell2 := (HD.out.ext HX).at' h1
      have hki : (k : Int) < (xs.length : Int) := by omega
      have hx1 : (x.toList != x.toList) = false := by simp
      have hx2 : (x.toList == x.toList) = true := by simp
      clear hlt
      go_wp2_with fail
      go_quiet (fail)
      go_wp2_with fail
      go_roundw
      case rel => exact ⟨k + 1, by omega, by go_num, HX.drewN _⟩
      case measure => simp [intOf]; omega
    · have hki : (xs.length : Int) ≤ (k : Int) := by omega
      clear hlt
      go_wp2_with fail
      go_ret
      exact ⟨rfl, HX⟩


@[go_sem] theorem eq_pair (a b c d : Int) (w : World) : (Op.equalIn 10000 72 (.agg #[.int .i64 a, .int .i64 b]) (.agg #[.int .i64 c, .int .i64 d])).run Tryz.prog w = .ok (a == c && b == d) w := by
  have u3 := Tryz.underlying3
  have a3 := Tryz.isAgg3
  have z3 := Tryz.sizeOf3
  rw [show (10000 : Nat) = 9999 + 1 from rfl, Op.equalIn]
  simp only [Sem.run_bind, run_underlying Tryz.underlying72, Result.andThen_ok]
  simp only [Std.Legacy.Range.forIn_eq_forIn_range', Std.Legacy.Range.size, Nat.sub_zero, Nat.add_sub_cancel, Nat.div_one, List.range'_succ, List.range'_zero, List.forIn_cons, List.forIn_nil]
  go_simp
  by_cases h1 : a = c <;> by_cases h2 : b = d <;> simp [h1, h2]

end Go.Proofs.YtkfheeffbombhaaGreatDoor
/- walk: regretFact -/
namespace Go.Proofs.YtkfheeffbombhaaGreatDoor
open Go.RowKit
set_option linter.unusedVariables false

end Go.Proofs.YtkfheeffbombhaaGreatDoor
