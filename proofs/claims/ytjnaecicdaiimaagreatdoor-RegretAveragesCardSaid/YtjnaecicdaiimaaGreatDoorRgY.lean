/- texts merged: RgI RgJ RgK RgL RgM RgN -/
import Derived.Test.YtjnaecicdaiimaaGreatDoorRgX
import Derived.OwnWalk
import Derived.Test.YtjnaecicdaiimaaGreatDoorRtI
import Derived.Test.YtjnaecicdaiimaaGreatDoorWgt
/- walks: regret.Average, Bounds -/
namespace Go.Proofs.YtjnaecicdaiimaaGreatDoor
open Go.RowKit
set_option linter.unusedVariables false

def avgRows (m : List (List ByteArray)) (ps : List (Int × Int)) : List Rat := (ratsI (cntF (·.1) ps m.length)).map (· / ((ps.length : Int) : Rat))
def avgCols (m : List (List ByteArray)) (ps : List (Int × Int)) : List Rat := (ratsI (cntF (·.2) ps (wideL m))).map (· / ((ps.length : Int) : Rat))
def histN (m : List (List ByteArray)) (ps : List (Int × Int)) : Int := if histE m ps ≠ 0 then histE m ps else if ps.length = 0 then 8 else 0

set_option maxHeartbeats 1600000 in
set_option maxRecDepth 100000 in
theorem average_err (v u : Value) (m : List (List ByteArray)) (ps : List (Int × Int)) (w : World) (hv : Rows Value.string w v m) (hu : Prs w u ps) (hs : ∀ l ∈ m, ∀ s ∈ l, s.size ≤ 9223372036854775806) (he : histN m ps ≠ 0) :
    Calls Tryz.prog 18 #[v, u] w fun e w' => e = .returned (.tuple #[.slice none 0 0, .slice none 0 0, .int .i64 (histN m ps)]) ∧ Ext w w' := by
  have HC := Lib.hid (rgCheck_any v u m ps w hv hu hs _ rfl)
  obtain ⟨us, hr, hul, hel⟩ := hv
  obtain ⟨ao, c, rfl, _, hlen, _, hc⟩ := hr
  obtain ⟨bo, d, rfl, hul2, hpc⟩ := hu
  unfold histN at *
  generalize histE m ps = p at *
  clear hc hel hul hpc hul2 hs
  by_cases hp : p = 0
  · subst hp
    rw [if_neg (by simp)] at *
    by_cases h0 : ps.length = 0
    · rw [if_pos h0, h0]
      rw [h0] at HC
      clear h0 he
      go_enter Tryz.func18, Tryz.ntmps18
      go_wp2_with fail
      refine HC.out.mono ?_
      rintro e w1 ⟨rfl, X1⟩
      go_wp2_with fail
      go_ret3
      exact ⟨rfl, X1⟩
    · rw [if_neg h0] at he; exact absurd rfl he
  · rw [if_pos hp]
    have hb : (p != 0) = true := by simp [hp]
    clear he hp
    go_enter Tryz.func18, Tryz.ntmps18
    go_wp2_with fail
    refine HC.out.mono ?_
    rintro e w1 ⟨rfl, X1⟩
    go_wp2_with fail
    go_ret3
    exact ⟨rfl, X1⟩

theorem histN_zero {m : List (List ByteArray)} {ps : List (Int × Int)} (h : histN m ps = 0) : histE m ps = 0 ∧ 0 < ps.length := by
  unfold histN at h
  by_cases h1 : histE m ps = 0
  · rw [if_neg (by simpa using h1)] at h
    by_cases h2 : ps.length = 0
    · rw [if_pos h2] at h; cases h
    · exact ⟨h1, by omega⟩
  · rw [if_pos h1] at h; exact absurd h h1

set_option maxHeartbeats 3200000 in
set_option maxRecDepth 100000 in
theorem average_go (v u : Value) (m : List (List ByteArray)) (ps : List (Int × Int)) (w : World) (htab : TabPow w) (hv : Rows Value.string w v m) (hu : Prs w u ps) (hs : ∀ l ∈ m, ∀ s ∈ l, s.size ≤ 9223372036854775806) (he : histN m ps = 0) :
    Calls Tryz.prog 18 #[v, u] w (BothPost (avgRows m ps) (avgCols m ps) w) := by
  obtain ⟨he, hp0⟩ := histN_zero he
  obtain ⟨hg0, hp200, hbad⟩ := histE_zero he
  have hm := matOk_of hs hg0
  have HC := Lib.hid (by have := rgCheck_any v u m ps w hv hu hs _ rfl; rwa [he] at this)
  have HCN := Lib.hid (fun W (hx : Ext w W) => counts_any v u m ps W (hv.ext hx) (hu.ext hx) hm.len hm.pos hm.wide hp200 hbad)
  have hml := hm.len
  have hwl := hm.wide
  have hQ1 : ∀ q ∈ ratsI (cntF (·.1) ps m.length), QB q := fun q hq => RB_QB (ratsI_RB (xs := cntF (·.1) ps m.length) (fun x hx => by have := cntF_le _ _ _ x hx; omega) q hq) (by omega)
  have hQ2 : ∀ q ∈ ratsI (cntF (·.2) ps (wideL m)), QB q := fun q hq => RB_QB (ratsI_RB (xs := cntF (·.2) ps (wideL m)) (fun x hx => by have := cntF_le _ _ _ x hx; omega) q hq) (by omega)
  have hl1 : (ratsI (cntF (·.1) ps m.length)).length = m.length := by unfold ratsI; rw [List.length_map, cntF_len]
  have hl2 : (ratsI (cntF (·.2) ps (wideL m))).length = wideL m := by unfold ratsI; rw [List.length_map, cntF_len]
  have HP1 := Lib.hid (fun (x : Value) W hx => parts_any x _ ps.length W hx (by omega) hp0 (by omega) hQ1)
  have HP2 := Lib.hid (fun (x : Value) W hx => parts_any x _ ps.length W hx (by omega) hp0 (by omega) hQ2)
  have HBO := Lib.hid (fun (x y : Value) W (hx : Ext w W) (h1 : QsV W x (avgRows m ps)) (h2 : QsV W y (avgCols m ps)) => both_any x y (avgRows m ps) (avgCols m ps) W (tabPow_ext htab hx) h1 h2 (by unfold avgRows; rw [List.length_map, hl1]; omega) (by unfold avgCols; rw [List.length_map, hl2]; omega))
  rw [show (ratsI (cntF (·.1) ps m.length)).map (· / ((ps.length : Int) : Rat)) = avgRows m ps from rfl] at HP1
  rw [show (ratsI (cntF (·.2) ps (wideL m))).map (· / ((ps.length : Int) : Rat)) = avgCols m ps from rfl] at HP2
  have HA1 : Hid ((avgRows m ps).length ≤ 40) := by show _ ≤ _; unfold avgRows; rw [List.length_map, hl1]; omega
  have HA2 : Hid ((avgCols m ps).length ≤ 40) := by show _ ≤ _; unfold avgCols; rw [List.length_map, hl2]; omega
  generalize ratsI (cntF (·.1) ps m.length) = q1 at *
  generalize ratsI (cntF (·.2) ps (wideL m)) = q2 at *
  generalize avgRows m ps = a1 at *
  generalize avgCols m ps = a2 at *
  obtain ⟨us, hr, hul, hel⟩ := hv
  obtain ⟨ao, c, rfl, _, hlen, _, hc⟩ := hr
  obtain ⟨bo, d, rfl, hul2, hpc⟩ := hu
  rw [he] at *
  have hpb : ((ps.length : Int) == 0) = false := by rw [beq_eq_false_iff_ne]; omega
  clear hc hel hul hpc hul2 hs he hm hbad hg0 htab hQ1 hQ2 hl1 hl2 hml hwl
  go_enter Tryz.func18, Tryz.ntmps18
  go_wp2_with fail
  refine HC.out.mono ?_
  rintro e w1 ⟨rfl, X1⟩
  go_wp2_with fail
  refine (HCN.out _ X1).mono ?_
  rintro e w2 ⟨r1, r2, rfl, h1, h2, X2⟩
  obtain ⟨ao1, c1, rfl, _, _⟩ := h1.opn
  obtain ⟨ao2, c2, rfl, _, _⟩ := h2.opn
  have H1 := Lib.hid h1
  have H2 := Lib.hid h2
  have XA := X1.trans X2
  clear h1 h2 X1 X2 HC HCN
  go_wp2_with fail
  refine (HP1.out _ _ H1.out).mono ?_
  rintro e w3 ⟨r3, rfl, h3, X3⟩
  have H3 := Lib.hid (h3.toV (by have := HA1.out; omega))
  obtain ⟨ao3, c3, rfl, _, _⟩ := H3.out.opn
  have XB := XA.trans X3
  have H2 := Lib.hid (H2.out.ext X3)
  clear h3 X3 XA
  go_wp2_with fail
  refine (HP2.out _ _ H2.out).mono ?_
  rintro e w4 ⟨r4, rfl, h4, X4⟩
  have H4 := Lib.hid (h4.toV (by have := HA2.out; omega))
  obtain ⟨ao4, c4, rfl, _, _⟩ := H4.out.opn
  have XX := XB.trans X4
  have H3 := Lib.hid (H3.out.ext X4)
  clear h4 X4 XB
  go_wp2_with fail
  refine (HBO.out _ _ _ XX H3.out H4.out).mono ?_
  intro e w9 h9
  unfold BothPost at h9 ⊢
  obtain ⟨X9, h9⟩ := h9
  rcases h9 with ⟨os, ps2, u1, u2, hn1, hn2, rfl, hst1, hst2⟩ | ⟨hn, rfl⟩
  · obtain ⟨ao1, c1, rfl, _, _⟩ := hst1.open
    obtain ⟨ao2, c2, rfl, _, _⟩ := hst2.open
    have H1 := Lib.hid hst1
    have H2 := Lib.hid hst2
    clear hst1 hst2
    go_wp2_with fail
    go_ret3
    exact ⟨XX.trans X9, .inl ⟨os, ps2, _, _, hn1, hn2, rfl, H1.out, H2.out⟩⟩
  · go_wp2_with fail
    go_ret3
    exact ⟨XX.trans X9, .inr ⟨hn, rfl⟩⟩

set_option maxHeartbeats 1600000 in
set_option maxRecDepth 100000 in
theorem bounds_err (v u : Value) (m : List (List ByteArray)) (ps : List (Int × Int)) (w : World) (hv : Rows Value.string w v m) (hu : Prs w u ps) (hs : ∀ l ∈ m, ∀ s ∈ l, s.size ≤ 9223372036854775806) (he : histN m ps ≠ 0) :
    Calls Tryz.prog 19 #[v, u] w fun e w' => e = .returned (.tuple #[.string ⟨#[]⟩, .string ⟨#[]⟩, .int .i64 (histN m ps)]) ∧ Ext w w' := by
  have HC := Lib.hid (rgCheck_any v u m ps w hv hu hs _ rfl)
  obtain ⟨us, hr, hul, hel⟩ := hv
  obtain ⟨ao, c, rfl, _, hlen, _, hc⟩ := hr
  obtain ⟨bo, d, rfl, hul2, hpc⟩ := hu
  unfold histN at *
  generalize histE m ps = p at *
  clear hc hel hul hpc hul2 hs
  by_cases hp : p = 0
  · subst hp
    rw [if_neg (by simp)] at *
    by_cases h0 : ps.length = 0
    · rw [if_pos h0, h0]
      rw [h0] at HC
      clear h0 he
      go_enter Tryz.func19, Tryz.ntmps19
      go_wp2_with fail
      refine HC.out.mono ?_
      rintro e w1 ⟨rfl, X1⟩
      go_wp2_with fail
      go_ret3
      exact ⟨rfl, X1⟩
    · rw [if_neg h0] at he; exact absurd rfl he
  · rw [if_pos hp]
    have hb : (p != 0) = true := by simp [hp]
    clear he hp
    go_enter Tryz.func19, Tryz.ntmps19
    go_wp2_with fail
    refine HC.out.mono ?_
    rintro e w1 ⟨rfl, X1⟩
    go_wp2_with fail
    go_ret3
    exact ⟨rfl, X1⟩

/-- the two bounds -/
def lowQ (m : List (List ByteArray)) (ps : List (Int × Int)) : Rat := (colsS m ps).getD (bestS (-1) (colsS m ps) (colsS m ps) 0 0) 0
def highQ (m : List (List ByteArray)) (ps : List (Int × Int)) : Rat := (rowsS m ps).getD (bestS 1 (rowsS m ps) (rowsS m ps) 0 0) 0
def BoundsPost (a b : Rat) (w : World) (e : Ending) (w' : World) : Prop := Ext w w' ∧
  ((fitsB a = true ∧ fitsB b = true ∧ e = .returned (.tuple #[.string (ratT a), .string (ratT b), .int .i64 0])) ∨
   ((fitsB a = false ∨ fitsB b = false) ∧ e = .returned (.tuple #[.string ⟨#[]⟩, .string ⟨#[]⟩, .int .i64 2])))

theorem ext_set {a b : World} (h : Ext a b) {p : Addr} (hp : a.heap.size ≤ p.block) (u : Value) : Ext a (b.setCell p u) := Below.setCell h hp u
theorem put3 {W : World} {B k : Nat} {e : TypeId} {x y z : Value} (h : W.ownsRow B e 3 (.slice (some ⟨k, 0, none⟩) 1 1) 1 [x, y, z]) (a b c : Value) :
    (((W.setCell ⟨k, 0, none⟩ a).setCell ⟨k, 1, none⟩ b).setCell ⟨k, 2, none⟩ c).cell? ⟨k, 0, none⟩ = some a ∧ (((W.setCell ⟨k, 0, none⟩ a).setCell ⟨k, 1, none⟩ b).setCell ⟨k, 2, none⟩ c).cell? ⟨k, 1, none⟩ = some b ∧ (((W.setCell ⟨k, 0, none⟩ a).setCell ⟨k, 1, none⟩ b).setCell ⟨k, 2, none⟩ c).cell? ⟨k, 2, none⟩ = some c :=
  ⟨cell3 ((st3 h).own a b c) (j := 0) rfl, cell3 ((st3 h).own a b c) (j := 1) rfl, cell3 ((st3 h).own a b c) (j := 2) rfl⟩
theorem peel3 {W : World} {k g : Nat} {a b c u v x : Value} (h : W.cell? ⟨g, 0, none⟩ = some u ∧ W.cell? ⟨g, 1, none⟩ = some v ∧ W.cell? ⟨g, 2, none⟩ = some x) (hne : k ≠ g) :
    (((W.setCell ⟨k, 0, none⟩ a).setCell ⟨k, 1, none⟩ b).setCell ⟨k, 2, none⟩ c).cell? ⟨g, 0, none⟩ = some u ∧ (((W.setCell ⟨k, 0, none⟩ a).setCell ⟨k, 1, none⟩ b).setCell ⟨k, 2, none⟩ c).cell? ⟨g, 1, none⟩ = some v ∧ (((W.setCell ⟨k, 0, none⟩ a).setCell ⟨k, 1, none⟩ b).setCell ⟨k, 2, none⟩ c).cell? ⟨g, 2, none⟩ = some x := by
  refine ⟨?_, ?_, ?_⟩
  · rw [World.cell?_setCell_other, World.cell?_setCell_other, World.cell?_setCell_other]
    · exact h.1
    all_goals (intro e; simp only [Addr.mk.injEq] at e; exact hne e.1)
  · rw [World.cell?_setCell_other, World.cell?_setCell_other, World.cell?_setCell_other]
    · exact h.2.1
    all_goals (intro e; simp only [Addr.mk.injEq] at e; exact hne e.1)
  · rw [World.cell?_setCell_other, World.cell?_setCell_other, World.cell?_setCell_other]
    · exact h.2.2
    all_goals (intro e; simp only [Addr.mk.injEq] at e; exact hne e.1)
theorem lit_qs2 {w : World} {e : TypeId} {k : Nat} (hk : k = w.heap.size) {s1 s2 : Bool} {a1 a2 b1 b2 : Option Addr} {l1 l2 c1 c2 m1 m2 d1 d2 : Nat} {q1 q2 : Rat} (h1 : QV w (.agg #[.bool s1, .slice a1 l1 c1, .slice b1 m1 d1]) q1) (h2 : QV w (.agg #[.bool s2, .slice a2 l2 c2, .slice b2 m2 d2]) q2) :
    QsV (w.alloc (.cells #[.bool s1, .slice a1 l1 c1, .slice b1 m1 d1, .bool s2, .slice a2 l2 c2, .slice b2 m2 d2] e)) (.slice (some ⟨k, 0, none⟩) 2 2) [q1, q2] := by
  subst hk
  have hx := (Ext.refl w).alloc (.cells #[.bool s1, .slice a1 l1 c1, .slice b1 m1 d1, .bool s2, .slice a2 l2 c2, .slice b2 m2 d2] e)
  refine QsV.of (qs := [q1, q2]) (by simp) fun i q hi => ?_
  match i, hi with
  | 0, hi =>
    simp only [List.getElem?_cons_zero, Option.some.injEq] at hi
    subst hi
    exact ⟨_, _, _, _, _, _, _, _, rfl, by simp [go_sem], by simp [go_sem], by simp [go_sem], h1.ext hx⟩
  | 1, hi =>
    simp only [List.getElem?_cons_succ, List.getElem?_cons_zero, Option.some.injEq] at hi
    subst hi
    exact ⟨_, _, _, _, _, _, _, _, rfl, by simp [go_sem], by simp [go_sem], by simp [go_sem], h2.ext hx⟩
  | i + 2, hi => simp at hi
theorem strs_two {w : World} {u : Value} {a b : ByteArray} (h : Strs w u [a, b]) : ∃ g off c, u = .slice (some ⟨g, off, none⟩) 2 c ∧ w.cell? ⟨g, off, none⟩ = some (.string a) ∧ w.cell? ⟨g, off + 1, none⟩ = some (.string b) := by
  obtain ⟨ao, c, rfl, _, hc⟩ := h.open
  obtain ⟨g, off, rfl, h0⟩ := hc 0 (.string a) rfl
  obtain ⟨g2, off2, e, h1⟩ := hc 1 (.string b) rfl
  simp only [Option.some.injEq, Addr.mk.injEq, and_true] at e
  obtain ⟨rfl, rfl⟩ := e
  exact ⟨g, off, c, rfl, h0, h1⟩

set_option maxHeartbeats 16000000 in
set_option maxRecDepth 100000 in
theorem bounds_go (v u : Value) (m : List (List ByteArray)) (ps : List (Int × Int)) (w : World) (htab : TabPow w) (hv : Rows Value.string w v m) (hu : Prs w u ps) (hs : ∀ l ∈ m, ∀ s ∈ l, s.size ≤ 9223372036854775806) (he : histN m ps = 0) :
    Calls Tryz.prog 19 #[v, u] w (BoundsPost (lowQ m ps / ((ps.length : Int) : Rat)) (highQ m ps / ((ps.length : Int) : Rat)) w) := by
  obtain ⟨he, hp0⟩ := histN_zero he
  obtain ⟨hg0, hp200, hbad⟩ := histE_zero he
  have hm := matOk_of hs hg0
  have HC := Lib.hid (by have := rgCheck_any v u m ps w hv hu hs _ rfl; rwa [he] at this)
  have HSU := Lib.hid (fun W (hx : Ext w W) => sums_any v u m ps W (hv.ext hx) (hu.ext hx) hm hp200 hbad)
  have hrb : ∀ l ∈ m, ∀ s ∈ l, RB 2000 (ratOf s) := fun l hl s h2 => ratOf_RB2k (hm.ok l hl s h2).1
  have hrs := rowsS_RB (ps := ps) (n := 40) hrb (fun l hl => by rw [hm.rect l hl]; exact hm.wide) hp200
  have hcs := colsS_RB (ps := ps) (n := 40) hrb (by omega) hm.len hp200
  have hrl := rowsS_len m ps
  have hcl := colsS_len m ps
  have hmp := hm.pos
  have hml := hm.len
  have hwp := (gameE_zero hg0).2.2.1
  have hwl := hm.wide
  have HB1 := Lib.hid (fun (x : Value) W hx => best_up x (rowsS m ps) W hx (by omega) (fun q hq => RB_QB (hrs q hq) (by omega)))
  have HB2 := Lib.hid (fun (x : Value) W hx => best_down x (colsS m ps) W hx (by omega) (fun q hq => RB_QB (hcs q hq) (by omega)))
  have hi1 := bestS_lt 1 (rowsS m ps) (rowsS m ps) 0 0 (by omega) (by omega)
  have hi2 := bestS_lt (-1) (colsS m ps) (colsS m ps) 0 0 (by omega) (by omega)
  have hg1 : (rowsS m ps)[bestS 1 (rowsS m ps) (rowsS m ps) 0 0]? = some (highQ m ps) := by
    unfold highQ
    rw [List.getD_eq_getElem?_getD, List.getElem?_eq_getElem hi1]
    rfl
  have hg2 : (colsS m ps)[bestS (-1) (colsS m ps) (colsS m ps) 0 0]? = some (lowQ m ps) := by
    unfold lowQ
    rw [List.getD_eq_getElem?_getD, List.getElem?_eq_getElem hi2]
    rfl
  have hqh := RB_QB (hrs _ (List.mem_of_getElem? hg1)) (by omega)
  have hql := RB_QB (hcs _ (List.mem_of_getElem? hg2)) (by omega)
  have HPT := Lib.hid (fun (x : Value) W hx => parts_any x [lowQ m ps, highQ m ps] ps.length W hx (by simp) hp0 (by omega) (by
    intro q hq
    simp only [List.mem_cons, List.not_mem_nil, or_false] at hq
    rcases hq with rfl | rfl
    · exact hql
    · exact hqh))
  have HOA := Lib.hid (fun (x : Value) W (hx : Ext w W) h => outAll_any x [lowQ m ps / ((ps.length : Int) : Rat), highQ m ps / ((ps.length : Int) : Rat)] W (tabPow_ext htab hx) h (by simp))
  have HG1 := Lib.hid hg1
  have HG2 := Lib.hid hg2
  have HRL : Hid ((rowsS m ps).length ≤ 40) := by show _ ≤ _; omega
  have HCL : Hid ((colsS m ps).length ≤ 40) := by show _ ≤ _; omega
  have HRP : Hid (0 < (rowsS m ps).length) := by show _ < _; omega
  have HCP : Hid (0 < (colsS m ps).length) := by show _ < _; omega
  unfold BoundsPost
  simp only [List.map_cons, List.map_nil] at HPT
  generalize highQ m ps = hiq at *
  generalize lowQ m ps = loq at *
  generalize hiq / ((ps.length : Int) : Rat) = hid at *
  generalize loq / ((ps.length : Int) : Rat) = lod at *
  generalize bestS 1 (rowsS m ps) (rowsS m ps) 0 0 = ia at *
  generalize bestS (-1) (colsS m ps) (colsS m ps) 0 0 = ib at *
  generalize rowsS m ps = y1 at *
  generalize colsS m ps = y2 at *
  obtain ⟨us, hr, hul, hel⟩ := hv
  obtain ⟨ao, c, rfl, _, hlen, _, hc⟩ := hr
  obtain ⟨bo, d, rfl, hul2, hpc⟩ := hu
  rw [he] at *
  have hpb : ((ps.length : Int) == 0) = false := by rw [beq_eq_false_iff_ne]; omega
  clear hc hel hul hpc hul2 hs he hm hbad hg0 htab hrb hrs hcs hrl hcl hqh hql hg1 hg2
  go_enter Tryz.func19, Tryz.ntmps19
  go_wp2_with fail
  refine HC.out.mono ?_
  rintro e w1 ⟨rfl, X1⟩
  go_wp2_with fail
  refine (HSU.out _ X1).mono ?_
  rintro e w2 ⟨r1, r2, C, rfl, h1, h2, hrC, hC, X2⟩
  obtain ⟨g1, cap1, rfl, hg1, hg1s⟩ := h1.head HRP.out
  obtain ⟨g2, cap2, rfl, hg2, hg2s⟩ := h2.head HCP.out
  have hne := hrC g1 rfl
  obtain ⟨g1', s5, ao5, l5, c5, bo5, m5, d5, e5, p0, p1, p2, hq5⟩ := (h1.cells (by have := HRL.out; omega)) ia hiq HG1.out
  obtain ⟨g2', s6, ao6, l6, c6, bo6, m6, d6, e6, q0, q1, q2, hq6⟩ := (h2.cells (by have := HCL.out; omega)) ib loq HG2.out
  simp only [Option.some.injEq, Addr.mk.injEq, and_true] at e5 e6
  subst e5
  subst e6
  have H1 := Lib.hid (h1.toV (by have := HRL.out; omega))
  have H2 := Lib.hid (h2.toV (by have := HCL.out; omega))
  have H5 := Lib.hid hq5
  have H6 := Lib.hid hq6
  have XA := X1.trans X2
  have hia : (ia : Int) < (y1.length : Int) := by omega
  have hib : (ib : Int) < (y2.length : Int) := by omega
  have HG1S := Lib.hid hg1s
  have HG2S := Lib.hid hg2s
  clear h1 h2 hrC hC hg1 hg2 hg1s hg2s hne X1 X2 HC HSU hq5 hq6
  go_upto_region 7 with fail
  go_cut [10, 11] (fun s10 s11 wx => ∃ T1 T2, s10 = .pointer (some ⟨T1, 0, none⟩) ∧ s11 = .pointer (some ⟨T2, 0, none⟩) ∧ Ext w2 wx ∧ (wx.cell? ⟨T1, 0, none⟩ = some (.bool s6) ∧ wx.cell? ⟨T1, 1, none⟩ = some (.slice ao6 l6 c6) ∧ wx.cell? ⟨T1, 2, none⟩ = some (.slice bo6 m6 d6)) ∧
    (wx.cell? ⟨T2, 0, none⟩ = some (.bool s5) ∧ wx.cell? ⟨T2, 1, none⟩ = some (.slice ao5 l5 c5) ∧ wx.cell? ⟨T2, 2, none⟩ = some (.slice bo5 m5 d5)))
  case first =>
    have HP0 := Lib.hid p0
    have HP1 := Lib.hid p1
    have HP2 := Lib.hid p2
    have HP3 := Lib.hid q0
    have HP4 := Lib.hid q1
    have HP5 := Lib.hid q2
    go_region_held3 (fun w' => w'.cell? ⟨g1, ia * 3, none⟩ = some (.bool s5) ∧ w'.cell? ⟨g1, ia * 3 + 1, none⟩ = some (.slice ao5 l5 c5) ∧ w'.cell? ⟨g1, ia * 3 + 2, none⟩ = some (.slice bo5 m5 d5) ∧ w'.cell? ⟨g2, ib * 3, none⟩ = some (.bool s6) ∧ w'.cell? ⟨g2, ib * 3 + 1, none⟩ = some (.slice ao6 l6 c6) ∧ w'.cell? ⟨g2, ib * 3 + 2, none⟩ = some (.slice bo6 m6 d6))
      (exact ⟨(by (repeat (rw [World.cell?_setCell_other]; rotate_left; (intro e; simp only [Addr.mk.injEq] at e; have t1 := HG1S.out; have t2 := HG2S.out; have t3 := X6.size; have t4 := X5.size; omega))); exact Ext.cell (by repeat' (first | exact X5 | exact X6 | exact Ext.refl w2 | apply Ext.drew | apply Ext.alloc)) HP0.out), (by (repeat (rw [World.cell?_setCell_other]; rotate_left; (intro e; simp only [Addr.mk.injEq] at e; have t1 := HG1S.out; have t2 := HG2S.out; have t3 := X6.size; have t4 := X5.size; omega))); exact Ext.cell (by repeat' (first | exact X5 | exact X6 | exact Ext.refl w2 | apply Ext.drew | apply Ext.alloc)) HP1.out), (by (repeat (rw [World.cell?_setCell_other]; rotate_left; (intro e; simp only [Addr.mk.injEq] at e; have t1 := HG1S.out; have t2 := HG2S.out; have t3 := X6.size; have t4 := X5.size; omega))); exact Ext.cell (by repeat' (first | exact X5 | exact X6 | exact Ext.refl w2 | apply Ext.drew | apply Ext.alloc)) HP2.out), (by (repeat (rw [World.cell?_setCell_other]; rotate_left; (intro e; simp only [Addr.mk.injEq] at e; have t1 := HG1S.out; have t2 := HG2S.out; have t3 := X6.size; have t4 := X5.size; omega))); exact Ext.cell (by repeat' (first | exact X5 | exact X6 | exact Ext.refl w2 | apply Ext.drew | apply Ext.alloc)) HP3.out), (by (repeat (rw [World.cell?_setCell_other]; rotate_left; (intro e; simp only [Addr.mk.injEq] at e; have t1 := HG1S.out; have t2 := HG2S.out; have t3 := X6.size; have t4 := X5.size; omega))); exact Ext.cell (by repeat' (first | exact X5 | exact X6 | exact Ext.refl w2 | apply Ext.drew | apply Ext.alloc)) HP4.out), (by (repeat (rw [World.cell?_setCell_other]; rotate_left; (intro e; simp only [Addr.mk.injEq] at e; have t1 := HG1S.out; have t2 := HG2S.out; have t3 := X6.size; have t4 := X5.size; omega))); exact Ext.cell (by repeat' (first | exact X5 | exact X6 | exact Ext.refl w2 | apply Ext.drew | apply Ext.alloc)) HP5.out)⟩)
      (first
        | (go_at_call_of 51 (Value.slice (some ⟨g2, 0, none⟩) y2.length cap2); refine (HB2.out _ _ (by exact H2.out.ext (by repeat' (first | exact Ext.refl w2 | apply Ext.drew | apply Ext.alloc)))).mono ?_; rintro e w6 ⟨rfl, Y6⟩; have X6 : Ext w2 w6 := Ext.trans (by repeat' (first | exact Ext.refl w2 | apply Ext.drew | apply Ext.alloc)) Y6; have hz6 := X6.size; (first | (have Yq : Ext w2.drew w6 := Y6; clear Yq) | (have Yq : Ext (w2.alloc (.cells #[.bool false, .slice none 0 0, .slice none 0 0] 78)).drew w6 := Y6; have R1 := Lib.hid (own_ext (own_ext (World.ownsRow_lit (base := w2.heap.size) (e := 78) (size := 3) w2 #[.bool false, .slice none 0 0, .slice none 0 0] 1 (Nat.le_refl _) (by unfold maxLen; omega) (by simp)) (Ext.refl _).drew) Yq); have hzz : w2.heap.size + 1 ≤ w6.heap.size := (by have := Yq.size; simp at this; omega); clear Yq) | (have Yq : Ext (w2.drew.alloc (.cells #[.bool false, .slice none 0 0, .slice none 0 0] 78)) w6 := Y6; have R1 := Lib.hid (own_ext (World.ownsRow_lit (base := w2.drew.heap.size) (e := 78) (size := 3) w2.drew #[.bool false, .slice none 0 0, .slice none 0 0] 1 (Nat.le_refl _) (by unfold maxLen; omega) (by simp)) Yq); have hzz : w2.heap.size + 1 ≤ w6.heap.size := (by have := Yq.size; simp at this; omega); clear Yq) | (have Yq : Ext ((w2.alloc (.cells #[.bool false, .slice none 0 0, .slice none 0 0] 78)).alloc (.cells #[.bool false, .slice none 0 0, .slice none 0 0] 78)).drew w6 := Y6; have R1 := Lib.hid (own_ext (own_ext (own_ext (World.ownsRow_lit (base := w2.heap.size) (e := 78) (size := 3) w2 #[.bool false, .slice none 0 0, .slice none 0 0] 1 (Nat.le_refl _) (by unfold maxLen; omega) (by simp)) ((Ext.refl _).alloc (.cells #[.bool false, .slice none 0 0, .slice none 0 0] 78))) (Ext.refl _).drew) Yq); have R2 := Lib.hid (own_ext (own_ext (World.ownsRow_lit (base := (w2.alloc (.cells #[.bool false, .slice none 0 0, .slice none 0 0] 78)).heap.size) (e := 78) (size := 3) (w2.alloc (.cells #[.bool false, .slice none 0 0, .slice none 0 0] 78)) #[.bool false, .slice none 0 0, .slice none 0 0] 1 (Nat.le_refl _) (by unfold maxLen; omega) (by simp)) (Ext.refl _).drew) Yq); have hzz : w2.heap.size + 2 ≤ w6.heap.size := (by have := Yq.size; simp at this; omega); clear Yq) | (have Yq : Ext ((w2.drew.alloc (.cells #[.bool false, .slice none 0 0, .slice none 0 0] 78)).alloc (.cells #[.bool false, .slice none 0 0, .slice none 0 0] 78)) w6 := Y6; have R1 := Lib.hid (own_ext (own_ext (World.ownsRow_lit (base := w2.drew.heap.size) (e := 78) (size := 3) w2.drew #[.bool false, .slice none 0 0, .slice none 0 0] 1 (Nat.le_refl _) (by unfold maxLen; omega) (by simp)) ((Ext.refl _).alloc (.cells #[.bool false, .slice none 0 0, .slice none 0 0] 78))) Yq); have R2 := Lib.hid (own_ext (World.ownsRow_lit (base := (w2.drew.alloc (.cells #[.bool false, .slice none 0 0, .slice none 0 0] 78)).heap.size) (e := 78) (size := 3) (w2.drew.alloc (.cells #[.bool false, .slice none 0 0, .slice none 0 0] 78)) #[.bool false, .slice none 0 0, .slice none 0 0] 1 (Nat.le_refl _) (by unfold maxLen; omega) (by simp)) Yq); have hzz : w2.heap.size + 2 ≤ w6.heap.size := (by have := Yq.size; simp at this; omega); clear Yq)))
        | (go_at_call_of 51 (Value.slice (some ⟨g1, 0, none⟩) y1.length cap1); refine (HB1.out _ _ (by exact H1.out.ext (by repeat' (first | exact X6 | apply Ext.drew | apply Ext.alloc)))).mono ?_; rintro e w5 ⟨rfl, Y5⟩; have X5 : Ext w2 w5 := Ext.trans (by repeat' (first | exact X6 | apply Ext.drew | apply Ext.alloc)) Y5; have Z5 : Ext w6 w5 := Ext.trans (by repeat' (first | exact Ext.refl w6 | apply Ext.alloc)) Y5; (try (have R1 := Lib.hid (own_ext R1.out Z5))); (try (have R2 := Lib.hid (own_ext R2.out Z5))); have hz5 := Z5.size; (first | (have Yq : Ext w6 w5 := Y5; clear Yq) | (have Yq : Ext (w6.alloc (.cells #[.bool false, .slice none 0 0, .slice none 0 0] 78)) w5 := Y5; have S1 := Lib.hid (own_ext (World.ownsRow_lit (base := w6.heap.size) (e := 78) (size := 3) w6 #[.bool false, .slice none 0 0, .slice none 0 0] 1 (Nat.le_refl _) (by unfold maxLen; omega) (by simp)) Yq); have hyy : w6.heap.size + 1 ≤ w5.heap.size := (by have := Yq.size; simp at this; omega); clear Yq) | (have Yq : Ext ((w6.alloc (.cells #[.bool false, .slice none 0 0, .slice none 0 0] 78)).alloc (.cells #[.bool false, .slice none 0 0, .slice none 0 0] 78)) w5 := Y5; have S1 := Lib.hid (own_ext (own_ext (World.ownsRow_lit (base := w6.heap.size) (e := 78) (size := 3) w6 #[.bool false, .slice none 0 0, .slice none 0 0] 1 (Nat.le_refl _) (by unfold maxLen; omega) (by simp)) ((Ext.refl _).alloc (.cells #[.bool false, .slice none 0 0, .slice none 0 0] 78))) Yq); have S2 := Lib.hid (own_ext (World.ownsRow_lit (base := (w6.alloc (.cells #[.bool false, .slice none 0 0, .slice none 0 0] 78)).heap.size) (e := 78) (size := 3) (w6.alloc (.cells #[.bool false, .slice none 0 0, .slice none 0 0] 78)) #[.bool false, .slice none 0 0, .slice none 0 0] 1 (Nat.le_refl _) (by unfold maxLen; omega) (by simp)) Yq); have hyy : w6.heap.size + 2 ≤ w5.heap.size := (by have := Yq.size; simp at this; omega); clear Yq)); (try (simp only [World.size_drew] at R1)); (try (simp only [World.size_alloc, World.size_drew] at R2)); (try (simp only [World.size_alloc] at S2)); (try (have Tr0 := st3 R1.out; have f0r0 := Tr0.f0; have c0r0 := Tr0.c0; have f1r0 := Tr0.f1; have c1r0 := Tr0.c1; have f2r0 := Tr0.f2; have c2r0 := Tr0.c2; have k1r0 := Tr0.k1; have k2r0 := Tr0.k2; have far0 := R1.out.frozenAt 1; have fbr0 := R1.out.frozenAt 2; have f0r0v := fun o => (st3 (own_ext R1.out ((Ext.refl w5).alloc o))).f0; have c0r0v := fun o => (st3 (own_ext R1.out ((Ext.refl w5).alloc o))).c0; have f1r0v := fun o => (st3 (own_ext R1.out ((Ext.refl w5).alloc o))).f1; have c1r0v := fun o => (st3 (own_ext R1.out ((Ext.refl w5).alloc o))).c1; have f2r0v := fun o => (st3 (own_ext R1.out ((Ext.refl w5).alloc o))).f2; have c2r0v := fun o => (st3 (own_ext R1.out ((Ext.refl w5).alloc o))).c2; have k1r0v := fun o => (st3 (own_ext R1.out ((Ext.refl w5).alloc o))).k1; have k2r0v := fun o => (st3 (own_ext R1.out ((Ext.refl w5).alloc o))).k2; have far0v := fun o => (own_ext R1.out ((Ext.refl w5).alloc o)).frozenAt 1; have fbr0v := fun o => (own_ext R1.out ((Ext.refl w5).alloc o)).frozenAt 2)); (try (have Tr1 := st3 R2.out; have f0r1 := Tr1.f0; have c0r1 := Tr1.c0; have f1r1 := Tr1.f1; have c1r1 := Tr1.c1; have f2r1 := Tr1.f2; have c2r1 := Tr1.c2; have k1r1 := Tr1.k1; have k2r1 := Tr1.k2; have far1 := R2.out.frozenAt 1; have fbr1 := R2.out.frozenAt 2; have f0r1v := fun o => (st3 (own_ext R2.out ((Ext.refl w5).alloc o))).f0; have c0r1v := fun o => (st3 (own_ext R2.out ((Ext.refl w5).alloc o))).c0; have f1r1v := fun o => (st3 (own_ext R2.out ((Ext.refl w5).alloc o))).f1; have c1r1v := fun o => (st3 (own_ext R2.out ((Ext.refl w5).alloc o))).c1; have f2r1v := fun o => (st3 (own_ext R2.out ((Ext.refl w5).alloc o))).f2; have c2r1v := fun o => (st3 (own_ext R2.out ((Ext.refl w5).alloc o))).c2; have k1r1v := fun o => (st3 (own_ext R2.out ((Ext.refl w5).alloc o))).k1; have k2r1v := fun o => (st3 (own_ext R2.out ((Ext.refl w5).alloc o))).k2; have far1v := fun o => (own_ext R2.out ((Ext.refl w5).alloc o)).frozenAt 1; have fbr1v := fun o => (own_ext R2.out ((Ext.refl w5).alloc o)).frozenAt 2)); (try (have Tr2 := st3 S1.out; have f0r2 := Tr2.f0; have c0r2 := Tr2.c0; have f1r2 := Tr2.f1; have c1r2 := Tr2.c1; have f2r2 := Tr2.f2; have c2r2 := Tr2.c2; have k1r2 := Tr2.k1; have k2r2 := Tr2.k2; have far2 := S1.out.frozenAt 1; have fbr2 := S1.out.frozenAt 2; have f0r2v := fun o => (st3 (own_ext S1.out ((Ext.refl w5).alloc o))).f0; have c0r2v := fun o => (st3 (own_ext S1.out ((Ext.refl w5).alloc o))).c0; have f1r2v := fun o => (st3 (own_ext S1.out ((Ext.refl w5).alloc o))).f1; have c1r2v := fun o => (st3 (own_ext S1.out ((Ext.refl w5).alloc o))).c1; have f2r2v := fun o => (st3 (own_ext S1.out ((Ext.refl w5).alloc o))).f2; have c2r2v := fun o => (st3 (own_ext S1.out ((Ext.refl w5).alloc o))).c2; have k1r2v := fun o => (st3 (own_ext S1.out ((Ext.refl w5).alloc o))).k1; have k2r2v := fun o => (st3 (own_ext S1.out ((Ext.refl w5).alloc o))).k2; have far2v := fun o => (own_ext S1.out ((Ext.refl w5).alloc o)).frozenAt 1; have fbr2v := fun o => (own_ext S1.out ((Ext.refl w5).alloc o)).frozenAt 2)); (try (have Tr3 := st3 S2.out; have f0r3 := Tr3.f0; have c0r3 := Tr3.c0; have f1r3 := Tr3.f1; have c1r3 := Tr3.c1; have f2r3 := Tr3.f2; have c2r3 := Tr3.c2; have k1r3 := Tr3.k1; have k2r3 := Tr3.k2; have far3 := S2.out.frozenAt 1; have fbr3 := S2.out.frozenAt 2; have f0r3v := fun o => (st3 (own_ext S2.out ((Ext.refl w5).alloc o))).f0; have c0r3v := fun o => (st3 (own_ext S2.out ((Ext.refl w5).alloc o))).c0; have f1r3v := fun o => (st3 (own_ext S2.out ((Ext.refl w5).alloc o))).f1; have c1r3v := fun o => (st3 (own_ext S2.out ((Ext.refl w5).alloc o))).c1; have f2r3v := fun o => (st3 (own_ext S2.out ((Ext.refl w5).alloc o))).f2; have c2r3v := fun o => (st3 (own_ext S2.out ((Ext.refl w5).alloc o))).c2; have k1r3v := fun o => (st3 (own_ext S2.out ((Ext.refl w5).alloc o))).k1; have k2r3v := fun o => (st3 (own_ext S2.out ((Ext.refl w5).alloc o))).k2; have far3v := fun o => (own_ext S2.out ((Ext.refl w5).alloc o)).frozenAt 1; have fbr3v := fun o => (own_ext S2.out ((Ext.refl w5).alloc o)).frozenAt 2)); have e0 : ¬ g1 = w2.heap.size := (by have := HG1S.out; omega); have e0' : ¬ w2.heap.size = g1 := (by have := HG1S.out; omega); have e1 : ¬ g2 = w2.heap.size := (by have := HG2S.out; omega); have e1' : ¬ w2.heap.size = g2 := (by have := HG2S.out; omega); (try (have e2 : ¬ w2.heap.size = w5.heap.size := (by skip; omega); have e2' : ¬ w5.heap.size = w2.heap.size := (by skip; omega))); have e3 : ¬ g1 = w2.heap.size + 1 := (by have := HG1S.out; omega); have e3' : ¬ w2.heap.size + 1 = g1 := (by have := HG1S.out; omega); have e4 : ¬ g2 = w2.heap.size + 1 := (by have := HG2S.out; omega); have e4' : ¬ w2.heap.size + 1 = g2 := (by have := HG2S.out; omega); (try (have e5 : ¬ w2.heap.size + 1 = w5.heap.size := (by skip; omega); have e5' : ¬ w5.heap.size = w2.heap.size + 1 := (by skip; omega))); have e6 : ¬ g1 = w6.heap.size := (by have := HG1S.out; omega); have e6' : ¬ w6.heap.size = g1 := (by have := HG1S.out; omega); have e7 : ¬ g2 = w6.heap.size := (by have := HG2S.out; omega); have e7' : ¬ w6.heap.size = g2 := (by have := HG2S.out; omega); (try (have e8 : ¬ w6.heap.size = w5.heap.size := (by skip; omega); have e8' : ¬ w5.heap.size = w6.heap.size := (by skip; omega))); have e9 : ¬ g1 = w6.heap.size + 1 := (by have := HG1S.out; omega); have e9' : ¬ w6.heap.size + 1 = g1 := (by have := HG1S.out; omega); have e10 : ¬ g2 = w6.heap.size + 1 := (by have := HG2S.out; omega); have e10' : ¬ w6.heap.size + 1 = g2 := (by have := HG2S.out; omega); (try (have e11 : ¬ w6.heap.size + 1 = w5.heap.size := (by skip; omega); have e11' : ¬ w5.heap.size = w6.heap.size + 1 := (by skip; omega))); (try (have e90 : ¬ w2.heap.size = w6.heap.size := (by skip; omega); have e90' : ¬ w6.heap.size = w2.heap.size := (by skip; omega))); (try (have e91 : ¬ w2.heap.size + 1 = w6.heap.size := (by skip; omega); have e91' : ¬ w6.heap.size = w2.heap.size + 1 := (by skip; omega))); (try (have e92 : ¬ w2.heap.size = w6.heap.size + 1 := (by skip; omega); have e92' : ¬ w6.heap.size + 1 = w2.heap.size := (by skip; omega))); skip))
    all_goals
      go_wp2_with fail
      go_meet
      refine ⟨_, _, rfl, rfl, ?_, ?_, ?_⟩
      · repeat' (first | with_reducible exact X5 | with_reducible apply Ext.alloc | (with_reducible refine ext_set ?_ ?_ _; rotate_left; (simp only; first | omega | (have t3 := X6.size; have t4 := X5.size; omega))))
      · have LIT := (World.ownsRow_lit (base := w5.heap.size) (e := 78) (size := 3) w5 #[.bool false, .slice none 0 0, .slice none 0 0] 1 (Nat.le_refl _) (by unfold maxLen; omega) (by simp))
        clear LIT
        first | (with_reducible refine peel3 (put3 R1.out _ _ _) ?_; (have t3 := X6.size; have t4 := X5.size; omega)) | (with_reducible refine peel3 (put3 R2.out _ _ _) ?_; (have t3 := X6.size; have t4 := X5.size; omega)) | (with_reducible refine peel3 (put3 S1.out _ _ _) ?_; (have t3 := X6.size; have t4 := X5.size; omega)) | (with_reducible refine peel3 (put3 S2.out _ _ _) ?_; (have t3 := X6.size; have t4 := X5.size; omega)) | (with_reducible refine peel3 (put3 (own_ext R1.out ((Ext.refl _).alloc _)) _ _ _) ?_; (have t3 := X6.size; have t4 := X5.size; omega)) | (with_reducible refine peel3 (put3 (own_ext R2.out ((Ext.refl _).alloc _)) _ _ _) ?_; (have t3 := X6.size; have t4 := X5.size; omega)) | (with_reducible refine peel3 (put3 (own_ext S1.out ((Ext.refl _).alloc _)) _ _ _) ?_; (have t3 := X6.size; have t4 := X5.size; omega)) | (with_reducible refine peel3 (put3 (own_ext S2.out ((Ext.refl _).alloc _)) _ _ _) ?_; (have t3 := X6.size; have t4 := X5.size; omega)) | (with_reducible refine peel3 ?_ ?_; exact ⟨by simp [go_sem], by simp [go_sem], by simp [go_sem]⟩; (have t3 := X6.size; have t4 := X5.size; omega)) | (exact ⟨by simp [go_sem], by simp [go_sem], by simp [go_sem]⟩)
      · have LIT := (World.ownsRow_lit (base := w5.heap.size) (e := 78) (size := 3) w5 #[.bool false, .slice none 0 0, .slice none 0 0] 1 (Nat.le_refl _) (by unfold maxLen; omega) (by simp))
        first | (with_reducible exact put3 (own_ext R1.out ((Ext.refl _).alloc _)) _ _ _) | (with_reducible exact put3 (own_ext R2.out ((Ext.refl _).alloc _)) _ _ _) | (with_reducible exact put3 (own_ext S1.out ((Ext.refl _).alloc _)) _ _ _) | (with_reducible exact put3 (own_ext S2.out ((Ext.refl _).alloc _)) _ _ _) | (with_reducible refine put3 (own_kept R1.out ((st3 R2.out).by' _ _ _) (.inl ?_)) _ _ _; (simp only [Value.ownBlock, ne_eq, Option.some.injEq]; have t3 := X6.size; have t4 := X5.size; omega)) | (with_reducible refine put3 (own_kept R1.out ((st3 S1.out).by' _ _ _) (.inl ?_)) _ _ _; (simp only [Value.ownBlock, ne_eq, Option.some.injEq]; have t3 := X6.size; have t4 := X5.size; omega)) | (with_reducible refine put3 (own_kept R1.out ((st3 S2.out).by' _ _ _) (.inl ?_)) _ _ _; (simp only [Value.ownBlock, ne_eq, Option.some.injEq]; have t3 := X6.size; have t4 := X5.size; omega)) | (with_reducible refine put3 (own_kept R2.out ((st3 R1.out).by' _ _ _) (.inl ?_)) _ _ _; (simp only [Value.ownBlock, ne_eq, Option.some.injEq]; have t3 := X6.size; have t4 := X5.size; omega)) | (with_reducible refine put3 (own_kept R2.out ((st3 S1.out).by' _ _ _) (.inl ?_)) _ _ _; (simp only [Value.ownBlock, ne_eq, Option.some.injEq]; have t3 := X6.size; have t4 := X5.size; omega)) | (with_reducible refine put3 (own_kept R2.out ((st3 S2.out).by' _ _ _) (.inl ?_)) _ _ _; (simp only [Value.ownBlock, ne_eq, Option.some.injEq]; have t3 := X6.size; have t4 := X5.size; omega)) | (with_reducible refine put3 (own_kept S1.out ((st3 R1.out).by' _ _ _) (.inl ?_)) _ _ _; (simp only [Value.ownBlock, ne_eq, Option.some.injEq]; have t3 := X6.size; have t4 := X5.size; omega)) | (with_reducible refine put3 (own_kept S1.out ((st3 R2.out).by' _ _ _) (.inl ?_)) _ _ _; (simp only [Value.ownBlock, ne_eq, Option.some.injEq]; have t3 := X6.size; have t4 := X5.size; omega)) | (with_reducible refine put3 (own_kept S1.out ((st3 S2.out).by' _ _ _) (.inl ?_)) _ _ _; (simp only [Value.ownBlock, ne_eq, Option.some.injEq]; have t3 := X6.size; have t4 := X5.size; omega)) | (with_reducible refine put3 (own_kept S2.out ((st3 R1.out).by' _ _ _) (.inl ?_)) _ _ _; (simp only [Value.ownBlock, ne_eq, Option.some.injEq]; have t3 := X6.size; have t4 := X5.size; omega)) | (with_reducible refine put3 (own_kept S2.out ((st3 R2.out).by' _ _ _) (.inl ?_)) _ _ _; (simp only [Value.ownBlock, ne_eq, Option.some.injEq]; have t3 := X6.size; have t4 := X5.size; omega)) | (with_reducible refine put3 (own_kept S2.out ((st3 S1.out).by' _ _ _) (.inl ?_)) _ _ _; (simp only [Value.ownBlock, ne_eq, Option.some.injEq]; have t3 := X6.size; have t4 := X5.size; omega)) | (with_reducible refine put3 (own_kept LIT ((st3 (own_ext R1.out ((Ext.refl _).alloc _))).by' _ _ _) (.inl ?_)) _ _ _; (simp only [Value.ownBlock, ne_eq, Option.some.injEq]; have t3 := X6.size; have t4 := X5.size; omega)) | (with_reducible refine put3 (own_kept LIT ((st3 (own_ext R2.out ((Ext.refl _).alloc _))).by' _ _ _) (.inl ?_)) _ _ _; (simp only [Value.ownBlock, ne_eq, Option.some.injEq]; have t3 := X6.size; have t4 := X5.size; omega)) | (with_reducible refine put3 (own_kept LIT ((st3 (own_ext S1.out ((Ext.refl _).alloc _))).by' _ _ _) (.inl ?_)) _ _ _; (simp only [Value.ownBlock, ne_eq, Option.some.injEq]; have t3 := X6.size; have t4 := X5.size; omega)) | (with_reducible refine put3 (own_kept LIT ((st3 (own_ext S2.out ((Ext.refl _).alloc _))).by' _ _ _) (.inl ?_)) _ _ _; (simp only [Value.ownBlock, ne_eq, Option.some.injEq]; have t3 := X6.size; have t4 := X5.size; omega)) | (exact ⟨by simp [go_sem], by simp [go_sem], by simp [go_sem]⟩)
  case rest =>
    obtain ⟨T1, T2, rfl, rfl, hxw, ⟨t0, t1, t2⟩, u0, u1, u2⟩ := hcut
    have XB := XA.trans hxw
    have H5 := Lib.hid (H5.out.ext hxw)
    have H6 := Lib.hid (H6.out.ext hxw)
    clear hxw H1 H2 p0 p1 p2 q0 q1 q2 HB1 HB2 XA
    go_wp2_with fail
    refine (HPT.out _ _ (by exact lit_qs2 (by first | rfl | simp) H6.out H5.out)).mono ?_
    rintro e w3 ⟨r3, rfl, h3, X3⟩
    have H3 := Lib.hid (h3.toV (by simp))
    obtain ⟨ao3, c3, rfl, _, _⟩ := H3.out.opn
    have XC := (XB.alloc (.cells #[.bool s6, .slice ao6 l6 c6, .slice bo6 m6 d6, .bool s5, .slice ao5 l5 c5, .slice bo5 m5 d5] 78)).trans X3
    clear h3 X3 t0 t1 t2 u0 u1 u2
    go_wp2_with fail
    refine (HOA.out _ _ XC H3.out).mono ?_
    rintro e w4 ⟨X4, h4⟩
    have XD := XC.trans X4
    clear XC X4 XB
    by_cases f1 : fitsB lod = true
    · by_cases f2 : fitsB hid = true
      · have ho : outsG [lod, hid] = some [ratT lod, ratT hid] := by
          rw [outsG, if_pos f1, outsG, if_pos f2]; rfl
        rcases h4 with ⟨hn, rfl⟩ | ⟨os, u4, hn, rfl, hst⟩
        · rw [ho] at hn; cases hn
        · rw [ho] at hn
          cases hn
          obtain ⟨g4, off4, c4, rfl, x0, x1⟩ := strs_two hst
          have HFT := Lib.hid f1
          have HFT2 := Lib.hid f2
          clear ho hst f1 f2
          go_wp2_with fail
          go_quiet (fail)
          have XE := XD.drewN nq
          generalize w4.drewN nq = wz at *
          go_wp2_with fail
          go_ret3
          exact ⟨XE, .inl ⟨HFT.out, HFT2.out, by first | rfl | simp⟩⟩
      · have ho : outsG [lod, hid] = none := by
          rw [outsG, if_pos f1, outsG, if_neg f2]; rfl
        rcases h4 with ⟨hn, rfl⟩ | ⟨os, u4, hn, rfl, hst⟩
        · have HFT : Hid (fitsB lod = false ∨ fitsB hid = false) := .inr (by simpa using f2)
          clear ho hn f1 f2
          go_wp2_with fail
          go_ret3
          exact ⟨XD, .inr ⟨HFT.out, rfl⟩⟩
        · rw [ho] at hn; cases hn
    · have ho : outsG [lod, hid] = none := by
        rw [outsG, if_neg f1]
      rcases h4 with ⟨hn, rfl⟩ | ⟨os, u4, hn, rfl, hst⟩
      · have HFT : Hid (fitsB lod = false ∨ fitsB hid = false) := .inl (by simpa using f1)
        clear ho hn f1
        go_wp2_with fail
        go_ret3
        exact ⟨XD, .inr ⟨HFT.out, rfl⟩⟩
      · rw [ho] at hn; cases hn
end Go.Proofs.YtjnaecicdaiimaaGreatDoor
/- walks: rat.In as an own slice; regret.Match -/
namespace Go.Proofs.YtjnaecicdaiimaaGreatDoor
open Go.RowKit
set_option linter.unusedVariables false

set_option maxHeartbeats 1600000 in
set_option maxRecDepth 100000 in
theorem ratInO_any (v : Value) (l : List ByteArray) (w : World) (hv : Strs w v l) (hok : ∀ s ∈ l, RatOk s ∧ s.size ≤ 9223372036854775806) (hl : l.length ≤ 1000000) :
    Calls Tryz.prog 77 #[v] w fun e w' => ∃ u, e = .returned u ∧ QsO w' w.heap.size u (l.map ratOf) ∧ Ext w w' := by
  obtain ⟨wo, rfl⟩ : ∃ wo : World, wo = w := ⟨_, rfl⟩
  obtain ⟨ao, c, rfl, hlen, hc⟩ := hv.open
  have HC := Lib.hid hc
  have HOK := Lib.hid hok
  have HYL : Hid ((l.map ratOf).length = l.length) := List.length_map ..
  have HYG : Hid (∀ (i : Nat) s, l[i]? = some s → (l.map ratOf)[i]? = some (ratOf s)) := fun i s h => by rw [List.getElem?_map, h]; rfl
  generalize l.map ratOf = ys at *
  clear hc hok hv
  go_enter Tryz.func77, Tryz.ntmps77
  go_wp2_with fail
  go_loopw [3, 8] (fun ov iv wr => ∃ (i : Nat), i ≤ l.length ∧ iv = .int .i64 i ∧ Hid (QsO wr wo.heap.size ov (ys.take i)) ∧ Ext wo wr) (fun _ iv _ => l.length - (intOf iv).toNat)
  case atStart => exact ⟨0, Nat.zero_le _, rfl, QsO.nil _ _, Ext.refl _⟩
  case round =>
    obtain ⟨i, hi, rfl, HO, X⟩ := hrel
    by_cases hlt : i < l.length
    · obtain ⟨s, d1, d2, d3⟩ := get_lt hlt
      obtain ⟨b, off, rfl, hc0⟩ := (HC.out.ext X).at d1
      have hcell : wr.cell? ⟨b, off + i, none⟩ = some (.string s) := hc0
      have hki : (i : Int) < (l.length : Int) := by omega
      obtain ⟨ho1, ho2⟩ := HOK.out s (List.mem_of_getElem? d1.out)
      have HP := Lib.hid (fun W => parse_any s W ho1 ho2)
      have HTJ : Hid (ys.take (i + 1) = ys.take i ++ [ratOf s]) := by
        show _ = _
        obtain ⟨h2, h3⟩ := List.getElem?_eq_some_iff.1 (HYG.out i s d1.out)
        rw [List.take_succ_eq_append_getElem h2, h3]
      have HTL : Hid ((ys.take i).length ≤ 1000000) := by show _ ≤ _; rw [List.length_take]; omega
      generalize ys.take i = Y1 at *
      generalize ratOf s = q at *
      clear hc0 ho1 ho2 hlt
      go_wp2_with fail
      refine (HP.out _).mono ?_
      rintro e w4 ⟨u4, rfl, h4, X4⟩
      obtain ⟨s5, ao5, l5, c5, bo5, m5, c6, rfl, _, _, _⟩ := h4.opn
      have HO4 := HO.out.ext X4
      have XA := X.trans X4
      have hsz := XA.size
      clear HO
      go_wp2_with (at_builtin; refine wp_appQ (sl := .tmp 12) (x := .tmp 15) rfl rfl HO4 h4 rfl rfl rfl HTL.out hsz ?_; intro v' w' hown hgrew hclean)
      have HE := Lib.hid (QsO.grew HO4 hgrew XA (Nat.le_refl _))
      rw [← HTJ.out] at hown
      have HOW := Lib.hid hown
      go_roundw
      case rel => exact ⟨i + 1, by omega, by go_num, HOW, HE.out⟩
      case measure => simp [intOf] <;> omega
    · have hil : l.length = i := by omega
      have hmm : ys.take i = ys := by rw [← hil, ← HYL.out]; exact List.take_length
      have HR0 := HO.out
      rw [hmm] at HR0
      have HR := Lib.hid HR0
      clear hmm HO HR0
      go_wp2_with fail
      go_ret
      exact ⟨_, rfl, HR.out, X⟩

theorem dig_small {n : Int} (h : n.natAbs < 4294967296) : (dig n.natAbs).length ≤ 1073741823 := dig_le10 (k := 10) (K := 1073741823) (by omega) (by omega)
theorem list_set_same {α : Type} {l : List α} {i : Nat} {x : α} (h : l[i]? = some x) : l.set i x = l := by
  obtain ⟨h1, h2⟩ := List.getElem?_eq_some_iff.1 h
  rw [← h2]
  exact List.set_getElem_self h1
def matchE (l : List ByteArray) : Int := if l.length = 0 then 8 else if 12 < l.length then 2 else vecE l
def posQ (q : Rat) : Rat := if q.num.sign < 0 then 0 else q
/-- the sum of the numbers that are not negative -/
def posS (qs : List Rat) (a : Rat) : Rat := qs.foldl (fun a q => a + posQ q) a
def parQ (s : Rat) (n : Nat) (q : Rat) : Rat := if s.num.sign = 0 then Rat.divInt 1 (n : Int) else q / s
def matchQ (l : List ByteArray) : List Rat := ((l.map ratOf).map posQ).map (parQ (posS (l.map ratOf) 0) l.length)
theorem posQ_RB {k : Nat} {q : Rat} (h : RB k q) (hk : 1 ≤ k) : RB k (posQ q) := by
  unfold posQ
  split
  · exact RB_zero.mono hk
  · exact h
theorem posS_RB {k : Nat} (hk : 1 ≤ k) : ∀ (qs : List Rat) (a : Rat) (m : Nat), RB m a → (∀ q ∈ qs, RB k q) → RB (m + (k + 1) * qs.length) (posS qs a)
  | [], a, m, ha, _ => ha.mono (by omega)
  | q :: t, a, m, ha, h => by
    show RB _ (posS t (a + posQ q))
    refine (posS_RB hk t _ (m + k + 1) (RB_add ha (posQ_RB (h q (List.mem_cons_self ..)) hk)) fun q hq => h q (List.mem_cons_of_mem _ hq)).mono ?_
    rw [List.length_cons, Nat.mul_succ]; omega
theorem matchE_zero {l : List ByteArray} (hs : ∀ s ∈ l, s.size ≤ 9223372036854775806) (h : matchE l = 0) : 0 < l.length ∧ l.length ≤ 12 ∧ vecE l = 0 ∧ ∀ s ∈ l, RatOk s ∧ s.size ≤ 9223372036854775806 := by
  unfold matchE at h
  by_cases h0 : l.length = 0
  · rw [if_pos h0] at h; cases h
  rw [if_neg h0] at h
  by_cases h1 : 12 < l.length
  · rw [if_pos h1] at h; cases h
  rw [if_neg h1] at h
  refine ⟨by omega, by omega, h, fun s hm => ⟨ratErr_ok ?_, hs s hm⟩⟩
  unfold vecE at h
  rw [if_neg (by omega)] at h
  exact errsL_zero h s hm
/-- what Match returns -/
def VecPost (qs : List Rat) (w : World) (e : Ending) (w' : World) : Prop := Ext w w' ∧
  ((outsG qs = none ∧ e = .returned (.tuple #[.slice none 0 0, .int .i64 2])) ∨ ∃ os u, outsG qs = some os ∧ e = .returned (.tuple #[u, .int .i64 0]) ∧ Strs w' u os)

set_option maxHeartbeats 1600000 in
set_option maxRecDepth 100000 in
theorem match_err (v : Value) (l : List ByteArray) (w : World) (hv : Strs w v l) (hs : ∀ s ∈ l, s.size ≤ 9223372036854775806) (he : matchE l ≠ 0) :
    Calls Tryz.prog 43 #[v] w fun e w' => e = .returned (.tuple #[.slice none 0 0, .int .i64 (matchE l)]) ∧ Ext w w' := by
  have HC := Lib.hid (fun Q hQ => checkVec_any v l w hv hs Q hQ)
  obtain ⟨ao, c, rfl, hlen, hc⟩ := hv.open
  unfold matchE at *
  clear hc hv hs
  by_cases h0 : l.length = 0
  · rw [if_pos h0, h0]
    clear he HC h0 hlen
    go_enter Tryz.func43, Tryz.ntmps43
    go_wp2_with fail
    go_ret2
    exact ⟨rfl, Ext.refl _⟩
  rw [if_neg h0] at *
  have hb0 : ((l.length : Int) == 0) = false := by rw [beq_eq_false_iff_ne]; omega
  by_cases h1 : 12 < l.length
  · rw [if_pos h1]
    have hi : (12 : Int) < (l.length : Int) := by omega
    clear he HC h0 h1
    go_enter Tryz.func43, Tryz.ntmps43
    go_wp2_with fail
    go_ret2
    exact ⟨rfl, Ext.refl _⟩
  rw [if_neg h1] at *
  have HC := Lib.hid (HC.out _ rfl)
  generalize vecE l = p at *
  have hb : (p != 0) = true := by simp [he]
  have hi : (l.length : Int) ≤ 12 := by omega
  clear he h0 h1
  go_enter Tryz.func43, Tryz.ntmps43
  go_wp2_with fail
  refine HC.out.mono ?_
  rintro e w1 ⟨rfl, X1⟩
  go_wp2_with fail
  go_ret2
  exact ⟨rfl, X1⟩

set_option maxHeartbeats 6400000 in
set_option maxRecDepth 100000 in
theorem match_go (v : Value) (l : List ByteArray) (w : World) (htab : TabPow w) (hv : Strs w v l) (hs : ∀ s ∈ l, s.size ≤ 9223372036854775806) (he : matchE l = 0) :
    Calls Tryz.prog 43 #[v] w (VecPost (matchQ l) w) := by
  obtain ⟨hl0, hl12, hve, hok⟩ := matchE_zero hs he
  have HC := Lib.hid (checkVec_any v l w hv hs 0 hve)
  have HIN0 := Lib.hid (fun W (hx : Ext w W) => ratInO_any v l W (hv.ext hx) hok (by omega))
  have HO0 := Lib.hid (fun W => qOf_any 0 W (by omega) (by omega))
  have hrb : ∀ q ∈ l.map ratOf, RB 2000 q := by
    intro q hq
    obtain ⟨s, hm, rfl⟩ := List.mem_map.1 hq
    exact ratOf_RB2k (hok s hm).1
  have HRB := Lib.hid hrb
  have hln : (l.map ratOf).length = l.length := List.length_map ..
  have HSB := posS_RB (k := 2000) (by omega) (l.map ratOf) 0 1 RB_zero hrb
  have HOA := Lib.hid (fun (x : Value) W (hx : Ext w W) h => outAll_any x (matchQ l) W (tabPow_ext htab hx) h (by unfold matchQ; rw [List.length_map, List.length_map, hln]; omega))
  have HM := Lib.hid (show subTo (parQ (posS (l.map ratOf) 0) l.length) ((l.map ratOf).map posQ) ((l.map ratOf).map posQ).length = matchQ l from subTo_all ..)
  have HML : Hid ((matchQ l).length ≤ 12) := by show _ ≤ _; unfold matchQ; rw [List.length_map, List.length_map, hln]; omega
  obtain ⟨SUM, hSUM⟩ : ∃ SUM, posS (l.map ratOf) 0 = SUM := ⟨_, rfl⟩
  have HF := Lib.hid hSUM
  rw [hSUM] at HM HSB
  clear hSUM
  unfold VecPost
  generalize matchQ l = res at *
  generalize l.map ratOf = qs at *
  obtain ⟨ao, c, rfl, hlen, hc⟩ := hv.open
  rw [← hln] at HC HIN0 HM
  rw [← hln]
  have hl0 : 0 < qs.length := by omega
  have hl12 : qs.length ≤ 12 := by omega
  have hb0 : ((qs.length : Int) == 0) = false := by rw [beq_eq_false_iff_ne]; omega
  have hi : (qs.length : Int) ≤ 12 := by omega
  clear hc hv hs he hve hok hrb htab hln
  go_enter Tryz.func43, Tryz.ntmps43
  go_wp2_with fail
  refine HC.out.mono ?_
  rintro e w1 ⟨rfl, X1⟩
  go_wp2_with fail
  refine (HIN0.out _ X1).mono ?_
  rintro e w2 ⟨r1, rfl, hr1, X2⟩
  obtain ⟨g1, cap1, rfl, hg1, hg1s⟩ := hr1.head hl0
  have HQ1 := Lib.hid hr1
  have XA := X1.trans X2
  have hwg1 : w.heap.size ≤ g1 := by have := X1.size; omega
  obtain ⟨BB, hBB⟩ : ∃ B, w1.heap.size = B := ⟨_, rfl⟩
  rw [hBB] at HQ1 hg1
  clear hr1 X1 X2 HC HIN0 hBB
  go_wp2_with fail
  refine (HO0.out _).mono ?_
  rintro e w3 ⟨u3, rfl, h3, X3⟩
  obtain ⟨s3, ao3, l3, c3, bo3, m3, d3, rfl, _, _, _⟩ := h3.opn
  obtain ⟨O, hO⟩ : ∃ O, w3.heap.size = O := ⟨_, rfl⟩
  have hA := Lib.hid (Acc.new h3 hO)
  have XW := (XA.trans X3).alloc (.cells #[.bool s3, .slice ao3 l3 c3, .slice bo3 m3 d3] 78)
  have hwO : w.heap.size ≤ O := by have := (XA.trans X3).size; omega
  have hOg : O ≠ g1 := by have := X3.size; omega
  have HQ2 := Lib.hid (HQ1.out.ext (X3.alloc (.cells #[.bool s3, .slice ao3 l3 c3, .slice bo3 m3 d3] 78)))
  clear h3 X3 XA HQ1 hg1s
  go_wp2_with fail
  clear hO
  go_loopw [27] (fun iv wr => ∃ (i : Nat) (acc : Rat) (s : Bool) (xo : Option Addr) (xl xc : Nat) (yo : Option Addr) (yl yc : Nat), i ≤ qs.length ∧ iv = .int .i64 i ∧ Hid (Acc wr O s xo xl xc yo yl yc acc) ∧ Hid (RB (1 + 2001 * i) acc) ∧
    Hid (QsO wr BB (.slice (some ⟨g1, 0, none⟩) qs.length cap1) (subTo posQ qs i)) ∧ Ext w wr ∧ Hid (posS (qs.drop i) acc = SUM)) (fun iv _ => qs.length - (intOf iv).toNat)
  case atStart => exact ⟨0, 0, s3, ao3, l3, c3, bo3, m3, d3, Nat.zero_le _, rfl, hA, RB_zero, by show QsO _ _ _ _; rw [subTo_zero]; exact HQ2.out, XW, HF⟩
  case round =>
    clear hA HQ2 XW HF
    obtain ⟨i, acc, s, xo, xl, xc, yo, yl, yc, hi2, rfl, HA, HAR, HQ, X, HI⟩ := hrel
    by_cases hlt : i < qs.length
    · obtain ⟨q, e1, d2, _⟩ := get_lt hlt
      have hqi := subTo_get (f := posQ) e1.out
      have HST := Lib.hid (subTo_set (f := posQ) e1.out)
      have rbq := HRB.out q (List.mem_of_getElem? e1.out)
      have rbp := posQ_RB rbq (by omega)
      have HIN : Hid (posS (qs.drop (i + 1)) (acc + posQ q) = SUM) := by
        have h2 := HI.out
        rw [d2.out] at h2
        exact h2
      have HAD := Lib.hid (fun (u v : Value) W hu hv => qAdd_any u v acc (posQ q) W hu hv (RB_QB HAR.out (by omega)) (RB_QB rbp (by omega)))
      have HBN : Hid (RB (1 + 2001 * (i + 1)) (acc + posQ q)) := by
        show RB _ _
        exact (RB_add HAR.out rbp).mono (by omega)
      have hki : (i : Int) < (qs.length : Int) := by omega
      have HSG := Lib.hid (fun (x : Value) W hx => qSign_any x q W hx)
      obtain ⟨g', s5, ao5, l5, c5, bo5, m5, d5, hg', e0, e1', e2, hq5⟩ := HQ.out.cells (by rw [subTo_len]; omega) i q hqi
      simp only [Option.some.injEq, Addr.mk.injEq, and_true] at hg'
      subst hg'
      obtain ⟨T7, hT7⟩ : ∃ T7, wr.heap.size = T7 := ⟨_, rfl⟩
      obtain ⟨W3, hW3⟩ : ∃ W3, wr.alloc (.cells #[.bool s5, .slice ao5 l5 c5, .slice bo5 m5 d5] 78) = W3 := ⟨_, rfl⟩
      have XL : Ext wr W3 := by rw [← hW3]; exact (Ext.refl wr).alloc _
      have t0 : W3.cell? ⟨T7, 0, none⟩ = some (.bool s5) := by rw [← hW3, ← hT7]; simp [go_sem]
      have t1 : W3.cell? ⟨T7, 1, none⟩ = some (.slice ao5 l5 c5) := by rw [← hW3, ← hT7]; simp [go_sem]
      have t2 : W3.cell? ⟨T7, 2, none⟩ = some (.slice bo5 m5 d5) := by rw [← hW3, ← hT7]; simp [go_sem]
      have HQ5 := Lib.hid (hq5.ext XL)
      have HQ3 := Lib.hid (HQ.out.ext XL)
      have HA3 := Lib.hid (HA.out.ext XL)
      have X3 := X.trans XL
      clear hq5 hqi HQ HA X XL HI rbq rbp HAR
      go_wp2_with fail
      clear hT7 hW3 e0 e1' e2
      refine (HSG.out _ _ HQ5.out).mono ?_
      rintro e wb ⟨rfl, Xb⟩
      have HQb := Lib.hid (HQ3.out.ext Xb)
      have HAb := Lib.hid (HA3.out.ext Xb)
      have XB := X3.trans Xb
      clear HQ3 HA3 HQ5 X3 Xb t0 t1 t2
      by_cases hneg : q.num.sign < 0
      · have hp0 : posQ q = 0 := by unfold posQ; rw [if_pos hneg]
        generalize q.num.sign = sg0 at *
        go_wp2_with fail
        refine (HO0.out _).mono ?_
        rintro e wc ⟨uc, rfl, hc3, Xc⟩
        obtain ⟨s8, ao8, l8, c8, bo8, m8, d8, rfl, _, _, _⟩ := hc3.opn
        obtain ⟨x9, y9, z9, hst, hput⟩ := (HQb.out.ext Xc).stored (i := i) (by rw [subTo_len]; omega)
        obtain ⟨wd, h7, hgr, hO7⟩ := hput _ _ _ _ _ _ _ _ hc3
        have f0 := hst.f0
        have c0 := hst.c0
        have f1 := hst.f1
        have c1 := hst.c1
        have f2 := hst.f2
        have c2 := hst.c2
        have HCL := (HQb.out.ext Xc).clean
        have hP := hO7
        rw [show ((0 : Int) : Rat) = posQ q by rw [hp0]; rfl, HST.out] at hP
        have HAB := Lib.hid ((HAb.out.ext Xc).kept HCL rfl hgr hOg)
        have XB := (XB.trans Xc).grown hgr hwg1
        clear hput hst hO7 hc3 HQb HAb hp0
        have HP1 := Lib.hid hP
        have hil2 : i < (subTo posQ qs (i + 1)).length := by rw [subTo_len]; omega
        have hgi : (subTo posQ qs (i + 1))[i]? = some (posQ q) := by rw [← HST.out, List.getElem?_set_self (by rw [subTo_len]; omega)]
        obtain ⟨g7, s7, ao7, l7, c7, bo7, m7, d7, hg7, y0, y1, y2, hq7⟩ := HP1.out.cells (by rw [subTo_len]; omega) i (posQ q) hgi
        simp only [Option.some.injEq, Addr.mk.injEq, and_true] at hg7
        subst hg7
        have HQ7 := Lib.hid hq7
        have k0 := HAB.out.c0
        have k1 := HAB.out.c1
        have k2 := HAB.out.c2
        obtain ⟨w4, rfl⟩ : ∃ w4 : World, w4 = wd := ⟨_, rfl⟩
        clear hq7 hgi hil2 hP
        go_wp2_with fail
        go_region_law (first
          | (go_simp; go_at_call 52; refine (HAD.out _ _ _ (by exact HAB.out.val.ext (Ext.refl w4).drew) (by exact HQ7.out.ext (Ext.refl w4).drew)).mono ?_; rintro e wa ⟨ua, rfl, ha, Ya⟩; obtain ⟨s9, ao9, l9, c9, bo9, m9, d9, rfl, _, _, _⟩ := ha.opn; have Xa : Ext w4 wa := (Ext.refl w4).drew.trans Ya; have HV := Lib.hid ha; have HAa := Lib.hid (HAB.out.ext Xa); have T := st3 HAa.out.row; have f0 := T.f0; have c0 := T.c0; have f1 := T.f1; have c1 := T.c1; have f2 := T.f2; have c2 := T.c2; clear ha T))
        all_goals
          obtain ⟨w7, h7, hgr, hput⟩ := HAa.out.put HV.out
          have HCL := HAa.out.clean
          rw [h7]
          have HP := Lib.hid hput
          have HQ8 := Lib.hid (QsO.kept (v := .slice (some ⟨O, 0, none⟩) 1 1) HCL hgr (HP1.out.ext Xa) (.inr (by simp [Value.ownBlock]; omega)))
          have X7 := (XB.trans Xa).grown hgr hwO
          clear h7 hput HCL f0 c0 f1 c1 f2 c2 k0 k1 k2 y0 y1 y2 hgr
          go_wp2_with fail
          go_roundw
          case rel => exact ⟨i + 1, acc + posQ q, s9, ao9, l9, c9, bo9, m9, d9, by omega, by go_num, HP, HBN, HQ8, X7, HIN⟩
          case measure => simp [intOf] <;> omega
      · have hp0 : posQ q = q := by unfold posQ; rw [if_neg hneg]
        have hP := HQb.out
        rw [show subTo posQ qs i = subTo posQ qs (i + 1) by
          rw [← HST.out, hp0]
          exact (list_set_same (subTo_get e1.out)).symm] at hP
        have HAB := HAb
        generalize q.num.sign = sg0 at *
        clear HQb HAb hp0
        have HP1 := Lib.hid hP
        have hil2 : i < (subTo posQ qs (i + 1)).length := by rw [subTo_len]; omega
        have hgi : (subTo posQ qs (i + 1))[i]? = some (posQ q) := by rw [← HST.out, List.getElem?_set_self (by rw [subTo_len]; omega)]
        obtain ⟨g7, s7, ao7, l7, c7, bo7, m7, d7, hg7, y0, y1, y2, hq7⟩ := HP1.out.cells (by rw [subTo_len]; omega) i (posQ q) hgi
        simp only [Option.some.injEq, Addr.mk.injEq, and_true] at hg7
        subst hg7
        have HQ7 := Lib.hid hq7
        have k0 := HAB.out.c0
        have k1 := HAB.out.c1
        have k2 := HAB.out.c2
        obtain ⟨w4, rfl⟩ : ∃ w4 : World, w4 = wb := ⟨_, rfl⟩
        clear hq7 hgi hil2 hP
        go_wp2_with fail
        go_region_law (first
          | (go_simp; go_at_call 52; refine (HAD.out _ _ _ (by exact HAB.out.val.ext (Ext.refl w4).drew) (by exact HQ7.out.ext (Ext.refl w4).drew)).mono ?_; rintro e wa ⟨ua, rfl, ha, Ya⟩; obtain ⟨s9, ao9, l9, c9, bo9, m9, d9, rfl, _, _, _⟩ := ha.opn; have Xa : Ext w4 wa := (Ext.refl w4).drew.trans Ya; have HV := Lib.hid ha; have HAa := Lib.hid (HAB.out.ext Xa); have T := st3 HAa.out.row; have f0 := T.f0; have c0 := T.c0; have f1 := T.f1; have c1 := T.c1; have f2 := T.f2; have c2 := T.c2; clear ha T))
        all_goals
          obtain ⟨w7, h7, hgr, hput⟩ := HAa.out.put HV.out
          have HCL := HAa.out.clean
          rw [h7]
          have HP := Lib.hid hput
          have HQ8 := Lib.hid (QsO.kept (v := .slice (some ⟨O, 0, none⟩) 1 1) HCL hgr (HP1.out.ext Xa) (.inr (by simp [Value.ownBlock]; omega)))
          have X7 := (XB.trans Xa).grown hgr hwO
          clear h7 hput HCL f0 c0 f1 c1 f2 c2 k0 k1 k2 y0 y1 y2 hgr
          go_wp2_with fail
          go_roundw
          case rel => exact ⟨i + 1, acc + posQ q, s9, ao9, l9, c9, bo9, m9, d9, by omega, by go_num, HP, HBN, HQ8, X7, HIN⟩
          case measure => simp [intOf] <;> omega
    · have hil : qs.length = i := by omega
      have hi3 := HI.out
      rw [← hil, List.drop_length] at hi3
      have hsa : acc = SUM := hi3
      subst hsa
      have HQ9 := HQ.out
      rw [← hil, subTo_all] at HQ9
      have HQX := Lib.hid HQ9
      have XX := X
      have HAX := HA
      have HFL : Hid ((qs.map posQ).length = qs.length) := List.length_map ..
      have HRP : Hid (∀ q ∈ qs.map posQ, RB 2000 q) := by
        intro q hq
        obtain ⟨q0, h0, rfl⟩ := List.mem_map.1 hq
        exact posQ_RB (HRB.out q0 h0) (by omega)
      generalize qs.map posQ = ps at *
      clear hil HQ HQ9 HA X HI hi3 HAR
      have HWH := Lib.hid (fun (n : Int) W h1 h2 => whole_any n W h1 h2)
      have HSG := Lib.hid (fun (x : Value) W hx => qSign_any x acc W hx)
      have HAQ := Lib.hid (RB_QB HSB (by omega))
      go_wp2_with fail
      go_loopw [48] (fun iv wr => ∃ (i : Nat), i ≤ qs.length ∧ iv = .int .i64 i ∧ Hid (QsO wr BB (.slice (some ⟨g1, 0, none⟩) qs.length cap1) (subTo (parQ acc qs.length) ps i)) ∧ Hid (Acc wr O s xo xl xc yo yl yc acc) ∧ Ext w wr) (fun iv _ => qs.length - (intOf iv).toNat)
      case atStart => exact ⟨0, Nat.zero_le _, rfl, by show QsO _ _ _ _; rw [subTo_zero]; exact HQX.out, HAX, XX⟩
      case round =>
        clear HQX HAX XX
        obtain ⟨i, hi2, rfl, HQ, HA, X⟩ := hrel
        by_cases hlt : i < qs.length
        · obtain ⟨q, e1, _, _⟩ := get_lt (xs := ps) (k := i) (by have := HFL.out; omega)
          have hqi := subTo_get (f := parQ acc qs.length) e1.out
          have HST := Lib.hid (subTo_set (f := parQ acc qs.length) e1.out)
          have HQB := Lib.hid (RB_QB (HRP.out q (List.mem_of_getElem? e1.out)) (by omega))
          have hki : (i : Int) < (qs.length : Int) := by omega
          obtain ⟨g', s5, ao5, l5, c5, bo5, m5, d5, hg', e0, e1', e2, hq5⟩ := HQ.out.cells (by rw [subTo_len]; have := HFL.out; omega) i q hqi
          simp only [Option.some.injEq, Addr.mk.injEq, and_true] at hg'
          subst hg'
          obtain ⟨T7, hT7⟩ : ∃ T7, wr.heap.size = T7 := ⟨_, rfl⟩
          obtain ⟨W3, hW3⟩ : ∃ W3, wr.alloc (.cells #[.bool s5, .slice ao5 l5 c5, .slice bo5 m5 d5] 78) = W3 := ⟨_, rfl⟩
          have XL : Ext wr W3 := by rw [← hW3]; exact (Ext.refl wr).alloc _
          have t0 : W3.cell? ⟨T7, 0, none⟩ = some (.bool s5) := by rw [← hW3, ← hT7]; simp [go_sem]
          have t1 : W3.cell? ⟨T7, 1, none⟩ = some (.slice ao5 l5 c5) := by rw [← hW3, ← hT7]; simp [go_sem]
          have t2 : W3.cell? ⟨T7, 2, none⟩ = some (.slice bo5 m5 d5) := by rw [← hW3, ← hT7]; simp [go_sem]
          have HQ5 := Lib.hid (hq5.ext XL)
          have HQ3 := Lib.hid (HQ.out.ext XL)
          have HA3 := Lib.hid (HA.out.ext XL)
          have X3 := X.trans XL
          have k0 := HA3.out.c0
          have k1 := HA3.out.c1
          have k2 := HA3.out.c2
          clear hq5 hqi HQ HA X XL
          go_wp2_with fail
          clear hT7 hW3 e0 e1' e2
          refine (HSG.out _ _ HA3.out.val).mono ?_
          rintro e wb ⟨rfl, Xb⟩
          have HQ5 := Lib.hid (HQ5.out.ext Xb)
          have HQ3 := Lib.hid (HQ3.out.ext Xb)
          have HA3 := Lib.hid (HA3.out.ext Xb)
          have X3 := X3.trans Xb
          have t0 := Xb.cell t0
          have t1 := Xb.cell t1
          have t2 := Xb.cell t2
          have k0 := Xb.cell k0
          have k1 := Xb.cell k1
          have k2 := Xb.cell k2
          clear Xb
          by_cases hz : acc.num.sign = 0
          · have hval : parQ acc qs.length q = Rat.divInt 1 (qs.length : Int) := by unfold parQ; rw [if_pos hz]
            have hb1 : (acc.num.sign == 0) = true := by simp [hz]
            generalize acc.num.sign = zz at *
            clear t0 t1 t2 k0 k1 k2 hz
            have HV1 := Lib.hid hval
            clear hval
            go_wp2_with fail
            refine (HWH.out 1 _ (by omega) (by omega)).mono ?_
            rintro e wc ⟨uc, rfl, hc3, Xc⟩
            obtain ⟨q8, ao8, l8, c8, rfl, _, _, _⟩ := hc3.opn
            have HI1 := Lib.hid hc3
            clear hc3
            go_wp2_with fail
            refine (HWH.out (qs.length : Int) _ (by omega) (by omega)).mono ?_
            rintro e wd ⟨ud, rfl, hd3, Xd⟩
            obtain ⟨q6, ao6, l6, c6, rfl, _, _, _⟩ := hd3.opn
            have HI2 := Lib.hid hd3
            have HI1 := Lib.hid (HI1.out.ext Xd)
            clear hd3
            go_wp2_with fail
            refine (frac_any _ _ 1 (qs.length : Int) _ HI1.out HI2.out (by omega) (dig_small (by omega)) (dig_small (by omega))).mono ?_
            rintro e wa ⟨ua, rfl, ha, Ya⟩
            obtain ⟨s9, ao9, l9, c9, bo9, m9, d9, rfl, _, _, _⟩ := ha.opn
            have XS := (Xc.trans Xd).trans Ya
            clear Xc Xd Ya HI1 HI2
            obtain ⟨x9, y9, z9, hst, hput⟩ := (HQ3.out.ext XS).stored (i := i) (by rw [subTo_len]; have := HFL.out; omega)
            obtain ⟨w7, h7, hgr, hO7⟩ := hput _ _ _ _ _ _ _ _ ha
            have f0 := hst.f0
            have c0 := hst.c0
            have f1 := hst.f1
            have c1 := hst.c1
            have f2 := hst.f2
            have c2 := hst.c2
            have HCL := (HQ3.out.ext XS).clean
            have HP := hO7
            rw [← HV1.out, HST.out] at HP
            have HP := Lib.hid HP
            have HAP := Lib.hid ((HA3.out.ext XS).kept HCL rfl hgr hOg)
            have X7 := (X3.trans XS).grown hgr hwg1
            clear hst hput hO7 HCL hgr ha
            go_wp2_with fail
            go_roundw
            case rel => exact ⟨i + 1, by omega, by go_num, HP, HAP, X7⟩
            case measure => simp [intOf] <;> omega
          · have hval : parQ acc qs.length q = q / acc := by unfold parQ; rw [if_neg hz]
            have hb1 : (acc.num.sign == 0) = false := by simp [hz]
            have hne : acc ≠ 0 := fun e => hz (by rw [e]; rfl)
            have HDV := Lib.hid (fun (x y : Value) W hx hy => qDiv_any x y q acc W hx hy HQB.out HAQ.out hne)
            generalize acc.num.sign = zz at *
            clear hz hne
            have HV1 := Lib.hid hval
            clear hval
            go_wp2_with fail
            refine (HDV.out _ _ _ HQ5.out HA3.out.val).mono ?_
            rintro e wa ⟨ua, rfl, ha, XS⟩
            obtain ⟨s9, ao9, l9, c9, bo9, m9, d9, rfl, _, _, _⟩ := ha.opn
            clear t0 t1 t2 k0 k1 k2
            obtain ⟨x9, y9, z9, hst, hput⟩ := (HQ3.out.ext XS).stored (i := i) (by rw [subTo_len]; have := HFL.out; omega)
            obtain ⟨w7, h7, hgr, hO7⟩ := hput _ _ _ _ _ _ _ _ ha
            have f0 := hst.f0
            have c0 := hst.c0
            have f1 := hst.f1
            have c1 := hst.c1
            have f2 := hst.f2
            have c2 := hst.c2
            have HCL := (HQ3.out.ext XS).clean
            have HP := hO7
            rw [← HV1.out, HST.out] at HP
            have HP := Lib.hid HP
            have HAP := Lib.hid ((HA3.out.ext XS).kept HCL rfl hgr hOg)
            have X7 := (X3.trans XS).grown hgr hwg1
            clear hst hput hO7 HCL hgr ha
            go_wp2_with fail
            go_roundw
            case rel => exact ⟨i + 1, by omega, by go_num, HP, HAP, X7⟩
            case measure => simp [intOf] <;> omega
        · have hil : ps.length = i := by have := HFL.out; omega
          have HQ9 := HQ.out
          rw [← hil, HM.out] at HQ9
          have HZ1 := Lib.hid (HQ9.toV (by have := HML.out; omega))
          clear hil HQ HQ9 HA hi2
          go_wp2_with fail
          refine (HOA.out _ _ X HZ1.out).mono ?_
          rintro e w9 ⟨X9, h9⟩
          rcases h9 with ⟨hn, rfl⟩ | ⟨os, u1, hn, rfl, hst1⟩
          · go_wp2_with fail
            go_ret2
            exact ⟨X.trans X9, .inl ⟨hn, rfl⟩⟩
          · obtain ⟨ao1, c1, rfl, _, _⟩ := hst1.open
            have H1 := Lib.hid hst1
            clear hst1
            go_wp2_with fail
            go_ret2
            exact ⟨X.trans X9, .inr ⟨os, _, hn, rfl, H1.out⟩⟩
end Go.Proofs.YtjnaecicdaiimaaGreatDoor
/- own slices that are filled; rows below a border; append of pairs -/
namespace Go.Proofs.YtjnaecicdaiimaaGreatDoor
open Go.RowKit
set_option linter.unusedVariables false

/-- an own slice of which some elements are known -/
def QsG (w : World) (B : Nat) (v : Value) (qs : List (Option Rat)) : Prop := ∃ ts : List TV, w.ownsRow B 78 3 v qs.length (flatT ts) ∧ Clean w v ∧ ts.length = qs.length ∧ ∀ (i : Nat) t q, ts[i]? = some t → qs[i]? = some (some q) → QV w t.v q
theorem QsG.ext {w w' : World} {B : Nat} {v : Value} {qs : List (Option Rat)} (h : QsG w B v qs) (hx : Ext w w') : QsG w' B v qs := by
  obtain ⟨ts, h1, h2, h3, h4⟩ := h
  exact ⟨ts, own_ext h1 hx, h2.ext hx, h3, fun i t q a b => (h4 i t q a b).ext hx⟩
theorem QsG.full {w : World} {B : Nat} {v : Value} {qs : List Rat} (h : QsG w B v (qs.map some)) : QsO w B v qs := by
  obtain ⟨ts, h1, h2, h3, h4⟩ := h
  rw [List.length_map] at h1 h3
  exact ⟨ts, h1, h2, h3, fun i t q a b => h4 i t q a (by rw [List.getElem?_map, b]; rfl)⟩
theorem QsG.clean {w : World} {B : Nat} {v : Value} {qs : List (Option Rat)} (h : QsG w B v qs) : Clean w v := by
  obtain ⟨ts, h1, h2, h3, h4⟩ := h
  exact h2
theorem QsG.kept {w w' : World} {B : Nat} {v u : Value} {qs : List (Option Rat)} (hc : Clean w v) (hg : w.grownBy w' v.ownBlock) (h : QsG w B u qs) (hne : u.ownBlock = none ∨ u.ownBlock ≠ v.ownBlock) : QsG w' B u qs := by
  obtain ⟨ts, h1, h2, h3, h4⟩ := h
  refine ⟨ts, own_kept h1 hg (hne.elim .inr .inl), fun g hgb => ?_, h3, fun i t q a b => hc.keptQ hg (h4 i t q a b)⟩
  obtain ⟨cur, e, fr, hb, hn⟩ := h2 g hgb
  refine ⟨cur, e, fr, ?_, hn⟩
  rw [hg.block g (Array.getElem?_eq_some_iff.1 hb).1 (fun e => ?_)]
  · exact hb
  · rcases hne with h | h
    · rw [h] at hgb; cases hgb
    · exact h (by rw [hgb, e])
theorem flatT_repl : ∀ n, flatT (List.replicate n ((.bool false, .slice none 0 0, .slice none 0 0) : TV)) = (madeCells #[.bool false, .slice none 0 0, .slice none 0 0] (n * 3)).toList
  | n => by
    apply List.ext_getElem?
    intro i
    have hl : (flatT (List.replicate n ((.bool false, .slice none 0 0, .slice none 0 0) : TV))).length = n * 3 := by rw [flatT_len, List.length_replicate]
    by_cases hi : i < n * 3
    · have hk : i / 3 < n := by omega
      have ht : (List.replicate n ((.bool false, .slice none 0 0, .slice none 0 0) : TV))[i / 3]? = some (.bool false, .slice none 0 0, .slice none 0 0) := by rw [List.getElem?_replicate, if_pos hk]
      obtain ⟨g0, g1, g2⟩ := flatT_get _ _ _ ht
      have hm : (madeCells #[.bool false, .slice none 0 0, .slice none 0 0] (n * 3)).toList[i]? = some (#[Value.bool false, .slice none 0 0, .slice none 0 0][i % 3]!) := by
        rw [List.getElem?_eq_getElem (by simp [madeCells]; exact hi)]
        simp [madeCells]
      rw [hm]
      rcases (show i % 3 = 0 ∨ i % 3 = 1 ∨ i % 3 = 2 by omega) with h | h | h
      · rw [show i = i / 3 * 3 by omega, g0]; rw [show i / 3 * 3 % 3 = 0 by omega]; rfl
      · rw [show i = i / 3 * 3 + 1 by omega]; rw [show (i / 3 * 3 + 1) % 3 = 1 by omega]; rw [g1]; rfl
      · rw [show i = i / 3 * 3 + 2 by omega]; rw [show (i / 3 * 3 + 2) % 3 = 2 by omega]; rw [g2]; rfl
    · rw [List.getElem?_eq_none (by rw [hl]; omega), List.getElem?_eq_none (by simp [madeCells]; omega)]
/-- a slice that is made -/
theorem QsG.made {w : World} {B g n : Nat} (h : w.ownsRow B 78 3 (.slice (some ⟨g, 0, none⟩) n n) n (madeCells #[.bool false, .slice none 0 0, .slice none 0 0] (n * 3)).toList) : QsG w B (.slice (some ⟨g, 0, none⟩) n n) (List.replicate n none) := by
  rw [← flatT_repl] at h
  have hc := clean_full h fun x hx d => by
    obtain ⟨i, hi⟩ := List.mem_iff_getElem?.1 hx
    have hl := flatT_len (List.replicate n ((.bool false, .slice none 0 0, .slice none 0 0) : TV))
    rw [List.length_replicate] at hl
    have hlt := (List.getElem?_eq_some_iff.1 hi).1
    have ht : (List.replicate n ((.bool false, .slice none 0 0, .slice none 0 0) : TV))[i / 3]? = some (.bool false, .slice none 0 0, .slice none 0 0) := by rw [List.getElem?_replicate, if_pos (by omega)]
    obtain ⟨g0, g1, g2⟩ := flatT_get _ _ _ ht
    rcases (show i % 3 = 0 ∨ i % 3 = 1 ∨ i % 3 = 2 by omega) with h | h | h
    · rw [show i = i / 3 * 3 by omega, g0] at hi; cases hi; simp [encD]
    · rw [show i = i / 3 * 3 + 1 by omega, g1] at hi; cases hi; simp [encD]
    · rw [show i = i / 3 * 3 + 2 by omega, g2] at hi; cases hi; simp [encD]
  refine ⟨_, by rw [List.length_replicate]; exact h, hc, by rw [List.length_replicate, List.length_replicate], fun i t q a b => ?_⟩
  rw [List.getElem?_replicate] at b
  split at b <;> simp at b
theorem QsG.stored {w : World} {B g n cap : Nat} {qs : List (Option Rat)} (h : QsG w B (.slice (some ⟨g, 0, none⟩) n cap) qs) {i : Nat} (hi : i < qs.length) : ∃ x y z, StI w g i x y z ∧
    ∀ s a l c b m d q, QV w (.agg #[.bool s, .slice a l c, .slice b m d]) q → ∃ w', (((w.setCell ⟨g, i * 3, none⟩ (.bool s)).setCell ⟨g, i * 3 + 1, none⟩ (.slice a l c)).setCell ⟨g, i * 3 + 2, none⟩ (.slice b m d)) = w' ∧ w.grownBy w' (some g) ∧ QsG w' B (.slice (some ⟨g, 0, none⟩) n cap) (qs.set i (some q)) := by
  obtain ⟨ts, h1, h2, h3, h4⟩ := h
  have hn : n = qs.length := by
    rcases h1.2 with ⟨e, _⟩ | ⟨g2, cap2, cur, e, _⟩
    · simp at e
    · simp only [Value.slice.injEq] at e; exact e.2.1
  subst hn
  have s1 := fun a => h1.stored (i * 3) a
  have s2 := fun a b => (s1 a).1.stored (i * 3 + 1) b
  have s3 := fun a b c => (s2 a b).1.stored (i * 3 + 2) c
  have hti : ts[i]? = some (ts[i]'(by omega)) := List.getElem?_eq_getElem (by omega)
  obtain ⟨p0, p1, p2⟩ := flatT_get ts i _ hti
  have hfl := flatT_len ts
  have cc : ∀ {w1 : World} {xs : List Value} (_ : w1.ownsRow B 78 3 (.slice (some ⟨g, 0, none⟩) qs.length cap) qs.length xs) {j : Nat} {u : Value}, xs[j]? = some u → w1.cell? ⟨g, j, none⟩ = some u := by
    intro w1 xs hh j u hj
    have := hh.cells (g := g) rfl j u hj
    rwa [Addr.add_lit, Nat.zero_add] at this
  refine ⟨_, _, _, ⟨h1.frozenAt (i * 3), cc h1 p0, fun a => (s1 a).1.frozenAt (i * 3 + 1), fun a => cc (s1 a).1 (by rw [List.getElem?_set_ne (by omega)]; exact p1), fun a b => (s2 a b).1.frozenAt (i * 3 + 2), fun a b => cc (s2 a b).1 (by rw [List.getElem?_set_ne (by omega), List.getElem?_set_ne (by omega)]; exact p2)⟩, ?_⟩
  intro s a l c b m d q hq
  have hgr := Lib.grownBy_trans (Lib.grownBy_trans (s1 (.bool s)).2 (s2 (.bool s) (.slice a l c)).2) (s3 (.bool s) (.slice a l c) (.slice b m d)).2
  have hrow := (s3 (.bool s) (.slice a l c) (.slice b m d)).1
  refine ⟨_, rfl, hgr, ts.set i (.bool s, .slice a l c, .slice b m d), ?_, ?_, by simp [h3], fun j t q2 hj hq2 => ?_⟩
  · rw [flatT_set _ _ _ _ _ (by omega), List.length_set]; exact hrow
  · intro k hk
    simp only [Value.ownBlock, Option.some.injEq] at hk
    subst hk
    rcases hrow.2 with ⟨e, _⟩ | ⟨g2, cap2, cur, e, _, hgc, _, hcm, hcs, htk⟩
    · simp at e
    · simp only [Value.slice.injEq, Option.some.injEq, Addr.mk.injEq, and_true, true_and] at e
      obtain ⟨rfl, rfl⟩ := e
      refine ⟨cur, _, _, hgc, ?_⟩
      obtain ⟨cur0, e0, fr0, hb0, hn0⟩ := h2 g rfl
      intro j d2 hj
      have hcell : (((w.setCell ⟨g, i * 3, none⟩ (.bool s)).setCell ⟨g, i * 3 + 1, none⟩ (.slice a l c)).setCell ⟨g, i * 3 + 2, none⟩ (.slice b m d)).cell? ⟨g, j, none⟩ = some (encD d2) := by rw [cell_of_obj' hgc]; exact hj
      by_cases j2 : j = i * 3 + 2
      · have := cc hrow (j := j) (u := .slice b m d) (by rw [j2, List.getElem?_set_self (by rw [List.length_set, List.length_set]; omega)])
        rw [hcell] at this
        simp [encD] at this
      · by_cases j1 : j = i * 3 + 1
        · have := cc hrow (j := j) (u := .slice a l c) (by rw [List.getElem?_set_ne (by omega), j1, List.getElem?_set_self (by rw [List.length_set]; omega)])
          rw [hcell] at this
          simp [encD] at this
        · by_cases j0 : j = i * 3
          · have := cc hrow (j := j) (u := .bool s) (by rw [List.getElem?_set_ne (by omega), List.getElem?_set_ne (by omega), j0, List.getElem?_set_self (by omega)])
            rw [hcell] at this
            simp [encD] at this
          · have hold : w.cell? ⟨g, j, none⟩ = some (encD d2) := by
              rw [← hcell]
              rw [World.cell?_setCell_other, World.cell?_setCell_other, World.cell?_setCell_other]
              all_goals (intro e; simp at e <;> omega)
            rw [cell_of_obj' hb0] at hold
            exact hn0 j d2 hold
  · by_cases hji : j = i
    · subst hji
      rw [List.getElem?_set_self (by omega)] at hj
      rw [List.getElem?_set_self hi] at hq2
      cases hj
      cases hq2
      exact h2.keptQ (v := .slice (some ⟨g, 0, none⟩) qs.length cap) hgr hq
    · rw [List.getElem?_set_ne (by omega)] at hj hq2
      exact h2.keptQ (v := .slice (some ⟨g, 0, none⟩) qs.length cap) hgr (h4 j t q2 hj hq2)
/-- append of one element of two cells, to a slice that holds no digit -/
theorem wp_app2c {P : Program} {rest : List Oper} {oa : Array Oper} {o : Oper} {a : Act} {Q : Exit → Act → World → Prop} {W : World} {x1 x2 : Value} (hg : o.guard = none) {s x : Operand} {t e : TypeId} {z : Value} {bytes : Nat}
    (ho : o.op = .call { callee := .builtin .append, args := #[s, x], argTypes := #[t, t] }) (ei : EI P t e z 2 bytes) (hzc : ∀ x ∈ z.cells.toList, ∀ d : Nat, x ≠ encD d) {B : Nat} {v : Value} {n : Nat} {xs : List Value}
    (hown : W.ownsRow B e 2 v n xs) (hcl : Clean W v) (hs : a.eval s = v) {k : Nat} (hx : a.eval x = .slice (some ⟨k, 0, none⟩) 1 1) (hk : k = W.heap.size)
    (h1 : x1.oneCell' = true) (h2 : x2.oneCell' = true) (hd : ∀ y ∈ [x1, x2], ∀ d : Nat, y ≠ encD d) (hlen : n + 1 ≤ 17592186044416) (hby : (n + 1) * bytes ≤ 140737488355328) (hB : B ≤ W.heap.size)
    (h : ∀ v' w', w'.ownsRow B e 2 v' (n + 1) (xs ++ [x1, x2]) → Grew W v w' v' → Clean w' v' → wpList P oa Q rest (a.put o.dst v') w') : wpList P oa Q (o :: rest) a (W.alloc (.cells #[x1, x2] e)) := by
  subst hk
  have hsrc : Src (W.alloc (.cells #[x1, x2] e)) (.slice (some ⟨W.heap.size, 0, none⟩) 1 1) 1 2 [x1, x2] := by
    refine ⟨_, _, rfl, rfl, ?_, fun _ => ⟨_, _, rfl, fun j y hy => ?_⟩⟩
    · intro y hy
      rcases List.mem_cons.1 hy with rfl | hy
      · exact h1
      · rw [List.mem_singleton] at hy; subst hy; exact h2
    · match j, hy with
      | 0, hy => simp at hy; subst hy; simp [World.cell?_alloc_new]
      | 1, hy => simp at hy; subst hy; simp [World.cell?_alloc_new]
  refine wpList_plain hg fun K hK => ?_
  have ho2 := own_ext hown ((Ext.refl W).alloc (.cells #[x1, x2] e))
  obtain ⟨v', w', hr, g2, g3⟩ := run_app (P := P) (ty := o.type) ei ho2 hsrc hlen hby (by simp; omega)
  obtain ⟨i, i1, i2, i3, i4⟩ := ei.info
  subst i4
  obtain ⟨ao, c, e1, e2, e3, e4⟩ := hsrc
  have hcl2 : Clean w' v' := append_clean (B := B) ei.und i1 i2 (by rw [i3]; exact ei.zc) (by rw [i3]; omega) (by rw [i3]; exact ho2) (hcl.alloc _) hzc (m := 1) (by rw [i3]; rfl) (by omega) (a := ⟨W.heap.size, 0, none⟩) (c := 1) (news := [x1, x2]) (by
    intro j u hu
    match j, hu with
    | 0, hy => simp at hy; subst hy; simp [Addr.add, World.cell?_alloc_new]
    | 1, hy => simp at hy; subst hy; simp [Addr.add, World.cell?_alloc_new]) e3 hd (by unfold maxLen; omega) hby hr
  unfold Oper.wp execOp
  simp only [ho, resolve, invoke, builtin, Sem.run_bind, Sem.run_pure, Result.andThen_ok, List.map_toArray, List.map_cons, List.map_nil, hs, hx, hr]
  refine hK _ _ (h v' w' g2 ⟨⟨g3.by'.os, g3.by'.tape, g3.by'.output, Nat.le_trans (by simp) g3.by'.size, fun k hk hn => ?_⟩, ?_⟩ hcl2)
  · rw [g3.by'.block k (by simp; omega) hn]; exact Below.heap_alloc W _ k hk
  · rcases g3.blk with e | e
    · exact .inl e
    · exact .inr fun k hk => by have := e k hk; simp at this; omega

/-- rows whose blocks lie below a border -/
def QssK (K : Nat) (w : World) (v : Value) (m : List (List Rat)) : Prop := ∃ us, Row w v us ∧ us.length = m.length ∧ (us ≠ [] → ∀ b off l c, v = .slice (some ⟨b, off, none⟩) l c → b < K) ∧
  ∀ (i : Nat) u qs, us[i]? = some u → m[i]? = some qs → QsV w u qs ∧ (qs ≠ [] → ∀ b l c, u = .slice (some ⟨b, 0, none⟩) l c → b < K)
theorem QssV.toK {w : World} {v : Value} {m : List (List Rat)} (h : QssV w v m) : QssK w.heap.size w v m := by
  obtain ⟨us, h1, h2, h3⟩ := h
  refine ⟨us, h1, h2, fun hn b off l c e => ?_, fun i u qs a b => ⟨h3 i u qs a b, fun hn b2 l c e => ?_⟩⟩
  · obtain ⟨ao, c2, e2, _, hlen, _, hc⟩ := h1
    obtain ⟨x, t, rfl⟩ := List.exists_cons_of_ne_nil hn
    obtain ⟨b3, off3, e3, hcell⟩ := hc 0 x rfl
    rw [e2] at e
    simp only [Value.slice.injEq] at e
    rw [e3] at e
    simp only [Option.some.injEq, Addr.mk.injEq, and_true] at e
    rw [← e.1.1]
    exact World.block_lt_of_cell? w _ hcell
  · obtain ⟨ao, c2, e2, _, hC⟩ := (h3 i u qs a b).opn
    rw [e2] at e
    simp only [Value.slice.injEq] at e
    exact hC.lt b2 e.1 hn
theorem QssK.ext {K : Nat} {w w' : World} {v : Value} {m : List (List Rat)} (h : QssK K w v m) (hx : Ext w w') : QssK K w' v m := by
  obtain ⟨us, h1, h2, h3, h4⟩ := h
  exact ⟨us, h1.ext hx, h2, h3, fun i u qs a b => ⟨(h4 i u qs a b).1.ext hx, (h4 i u qs a b).2⟩⟩
theorem QssK.kept {K : Nat} {w w' : World} {v u : Value} {m : List (List Rat)} (hc : Clean w v) (hg : w.grownBy w' v.ownBlock) (hk : ∀ k, v.ownBlock = some k → K ≤ k) (h : QssK K w u m) : QssK K w' u m := by
  obtain ⟨us, h1, h2, h3, h4⟩ := h
  refine ⟨us, ?_, h2, h3, fun i x qs a b => ⟨?_, (h4 i x qs a b).2⟩⟩
  · obtain ⟨ao, c, e, p1, p2, p3, hcells⟩ := h1
    refine ⟨ao, c, e, p1, p2, p3, fun i x hx => ?_⟩
    obtain ⟨b, off, eb, hcell⟩ := hcells i x hx
    have hb := h3 (by intro e0; rw [e0] at hx; simp at hx) b off _ _ (by rw [e, eb])
    exact ⟨b, off, eb, hg.cell hcell (fun e0 => by have := hk b e0.symm; omega)⟩
  · obtain ⟨hq, hb⟩ := h4 i x qs a b
    obtain ⟨ao, c, rfl, hl, hC⟩ := hq.opn
    exact QsV.of hl (hc.keptD hg hC fun b2 e2 hn e0 => by
      have h5 := hb hn b2 _ _ (by rw [e2])
      have h6 := hk b2 e0
      omega)
/-- the cells of one element -/
theorem QssK.at {K : Nat} {w : World} {v : Value} {m : List (List Rat)} (h : QssK K w v m) {i k : Nat} {r : List Rat} {q : Rat} (hr : m[i]? = some r) (hq : r[k]? = some q) : ∃ bo off l c g l2 c2 s a l3 c3 b m3 d, v = .slice (some ⟨bo, off, none⟩) l c ∧ l = m.length ∧
    w.cell? ⟨bo, off + i, none⟩ = some (.slice (some ⟨g, 0, none⟩) l2 c2) ∧ l2 = r.length ∧ w.cell? ⟨g, k * 3, none⟩ = some (.bool s) ∧ w.cell? ⟨g, k * 3 + 1, none⟩ = some (.slice a l3 c3) ∧ w.cell? ⟨g, k * 3 + 2, none⟩ = some (.slice b m3 d) ∧ QV w (.agg #[.bool s, .slice a l3 c3, .slice b m3 d]) q := by
  obtain ⟨us, h1, h2, h3, h4⟩ := h
  have hi := (List.getElem?_eq_some_iff.1 hr).1
  have hu : us[i]? = some (us[i]'(by omega)) := List.getElem?_eq_getElem (by omega)
  obtain ⟨ao, c, e, _, _, _, hcells⟩ := h1
  obtain ⟨bo, off, eb, hcell⟩ := hcells i _ hu
  obtain ⟨ao2, c2, e2, _, hC⟩ := (h4 i _ r hu hr).1.opn
  obtain ⟨g, s, a, l3, c3, b, m3, d, e3, y0, y1, y2, hv⟩ := hC k q hq
  refine ⟨bo, off, us.length, c, g, r.length, c2, s, a, l3, c3, b, m3, d, by rw [e, eb], h2, ?_, rfl, y0, y1, y2, hv⟩
  rw [hcell, e2, e3]
/-! ### pairs -/
def flatP : List (Int × Int) → List Value
  | [] => []
  | p :: t => .int .i64 p.1 :: .int .i64 p.2 :: flatP t
theorem flatP_len : ∀ ps, (flatP ps).length = ps.length * 2
  | [] => rfl
  | p :: t => by simp only [flatP, List.length_cons, flatP_len t]; omega
theorem flatP_app : ∀ (ps : List (Int × Int)) (p : Int × Int), flatP (ps ++ [p]) = flatP ps ++ [.int .i64 p.1, .int .i64 p.2]
  | [], p => rfl
  | a :: t, p => by simp only [List.cons_append, flatP, flatP_app t p]
theorem flatP_get : ∀ (ps : List (Int × Int)) (i : Nat) (p : Int × Int), ps[i]? = some p → (flatP ps)[i * 2]? = some (.int .i64 p.1) ∧ (flatP ps)[i * 2 + 1]? = some (.int .i64 p.2)
  | [], i, p, h => by simp at h
  | a :: t, 0, p, h => by
    simp only [List.getElem?_cons_zero, Option.some.injEq] at h
    subst h
    exact ⟨rfl, rfl⟩
  | a :: t, i + 1, p, h => by
    have := flatP_get t i p (by simpa using h)
    rw [show (i + 1) * 2 = i * 2 + 2 by omega]
    exact this
def PrsO (w : World) (B : Nat) (v : Value) (ps : List (Int × Int)) : Prop := w.ownsRow B 32 2 v ps.length (flatP ps) ∧ Clean w v
theorem PrsO.nil (w : World) (B : Nat) : PrsO w B (.slice none 0 0) [] := ⟨World.ownsRow_nil _ _ _ _, Clean.nil _⟩
theorem PrsO.ext {w w' : World} {B : Nat} {v : Value} {ps : List (Int × Int)} (h : PrsO w B v ps) (hx : Ext w w') : PrsO w' B v ps := ⟨own_ext h.1 hx, h.2.ext hx⟩
theorem PrsO.kept {w w' : World} {B : Nat} {v u : Value} {ps : List (Int × Int)} (hg : w.grownBy w' v.ownBlock) (h : PrsO w B u ps) (hne : u.ownBlock = none ∨ u.ownBlock ≠ v.ownBlock) : PrsO w' B u ps := by
  refine ⟨own_kept h.1 hg (hne.elim .inr .inl), fun g hgb => ?_⟩
  obtain ⟨cur, e, fr, hb, hn⟩ := h.2 g hgb
  refine ⟨cur, e, fr, ?_, hn⟩
  rw [hg.block g (Array.getElem?_eq_some_iff.1 hb).1 (fun e => ?_)]
  · exact hb
  · rcases hne with h | h
    · rw [h] at hgb; cases hgb
    · exact h (by rw [hgb, e])
theorem PrsO.toV {w : World} {B : Nat} {v : Value} {ps : List (Int × Int)} (h : PrsO w B v ps) (hl : ps.length ≤ 17592186044416) : Prs w v ps := by
  rcases h.1.2 with ⟨rfl, h0⟩ | ⟨g, cap, cur, rfl, hb, hg, _⟩
  · have : ps = [] := List.eq_nil_of_length_eq_zero h0
    subst this
    exact ⟨none, 0, rfl, by simp, fun i p hp => by simp at hp⟩
  · refine ⟨_, _, rfl, hl, fun i p hp => ?_⟩
    obtain ⟨g0, g1⟩ := flatP_get ps i p hp
    have c0 := h.1.cells (g := g) rfl _ _ g0
    have c1 := h.1.cells (g := g) rfl _ _ g1
    rw [Addr.add_lit, Nat.zero_add] at c0 c1
    exact ⟨g, 0, rfl, by rw [Nat.zero_add]; exact c0, by rw [Nat.zero_add]; exact c1⟩
theorem info_pr : (Tryz.prog.info? 32).map (fun i => (i.zero, i.size, i.bytes)) = some (some (.agg #[.int .i64 0, .int .i64 0]), 2, 16) := by kernel_rfl
theorem ei_pr : EI Tryz.prog 26 32 (.agg #[.int .i64 0, .int .i64 0]) 2 16 := ⟨Tryz.underlying26, info_parts info_pr, by decide, by decide⟩
theorem zc_pr : ∀ x ∈ (Value.agg #[.int .i64 0, .int .i64 0]).cells.toList, ∀ d : Nat, x ≠ encD d := by
  intro x hx d
  simp [Value.cells] at hx
  subst hx
  simp [encD]
/-- some numbers are changed into others, from the left -/
def mixTo (ys zs : List Rat) (i : Nat) : List Rat := zs.take i ++ ys.drop i
theorem mixTo_zero (ys zs : List Rat) : mixTo ys zs 0 = ys := by unfold mixTo; rw [List.take_zero, List.drop_zero]; rfl
theorem mixTo_all {ys zs : List Rat} (h : zs.length = ys.length) : mixTo ys zs ys.length = zs := by unfold mixTo; rw [← h, List.take_length, h, List.drop_length, List.append_nil]
theorem mixTo_len {ys zs : List Rat} (h : zs.length = ys.length) (i : Nat) : (mixTo ys zs i).length = ys.length := by
  unfold mixTo
  rw [List.length_append, List.length_take, List.length_drop]; omega
theorem mixTo_get {ys zs : List Rat} {i : Nat} {q : Rat} (hl : zs.length = ys.length) (h : ys[i]? = some q) : (mixTo ys zs i)[i]? = some q := by
  unfold mixTo
  have hi := (List.getElem?_eq_some_iff.1 h).1
  rw [List.getElem?_append_right (by rw [List.length_take]; omega), List.length_take, Nat.min_eq_left (by omega), Nat.sub_self, List.getElem?_drop]
  exact h
theorem mixTo_set {ys zs : List Rat} {i : Nat} {q : Rat} (hl : zs.length = ys.length) (h : zs[i]? = some q) : (mixTo ys zs i).set i q = mixTo ys zs (i + 1) := by
  obtain ⟨hi, hq⟩ := List.getElem?_eq_some_iff.1 h
  have h2 : (zs.take i).length = i := by rw [List.length_take]; omega
  unfold mixTo
  rw [List.set_append_right _ _ (by omega), h2, Nat.sub_self, List.take_succ_eq_append_getElem hi, List.append_assoc, hq]
  congr 1
  rw [List.drop_eq_getElem_cons (show i < ys.length by omega)]
  rfl
end Go.Proofs.YtjnaecicdaiimaaGreatDoor
/- walk: regret.Play -/
namespace Go.Proofs.YtjnaecicdaiimaaGreatDoor
open Go.RowKit
set_option linter.unusedVariables false

def playE (m : List (List ByteArray)) (n : Int) : Int := if gameE m ≠ 0 then gameE m else if n < 0 ∨ 200 < n then 4 else 0
def addQs (ys zs : List Rat) : List Rat := List.zipWith (· + ·) ys zs
/-- the rounds that are played from sums of the rows and of the columns on -/
def playS (M : List (List Rat)) : Nat → List Rat → List Rat → List (Int × Int)
  | 0, _, _ => []
  | t + 1, rows, cols => (((bestS 1 rows rows 0 0 : Nat) : Int), ((bestS (-1) cols cols 0 0 : Nat) : Int)) ::
      playS M t (addQs rows (colQ M (bestS (-1) cols cols 0 0))) (addQs cols (M.getD (bestS 1 rows rows 0 0) []))
def playQ (m : List (List ByteArray)) (n : Nat) : List (Int × Int) := playS (numM m) n (List.replicate m.length 0) (List.replicate (wideL m) 0)
theorem addQs_len {ys zs : List Rat} (h : zs.length = ys.length) : (addQs ys zs).length = ys.length := by unfold addQs; rw [List.length_zipWith]; omega
theorem addQs_get {ys zs : List Rat} {i : Nat} {a b : Rat} (h1 : ys[i]? = some a) (h2 : zs[i]? = some b) : (addQs ys zs)[i]? = some (a + b) := by
  unfold addQs
  rw [List.getElem?_zipWith, h1, h2]
theorem addQs_RB {k j : Nat} {ys zs : List Rat} (h1 : ∀ q ∈ ys, RB k q) (h2 : ∀ q ∈ zs, RB j q) : ∀ q ∈ addQs ys zs, RB (k + j + 1) q := by
  intro q hq
  obtain ⟨i, hi⟩ := List.mem_iff_getElem?.1 hq
  unfold addQs at hi
  rw [List.getElem?_zipWith] at hi
  cases ha : ys[i]? with
  | none => rw [ha] at hi; simp at hi
  | some a =>
    cases hb : zs[i]? with
    | none => rw [ha, hb] at hi; simp at hi
    | some b =>
      rw [ha, hb] at hi
      simp only [Option.some.injEq] at hi
      rw [← hi]
      exact RB_add (h1 a (List.mem_of_getElem? ha)) (h2 b (List.mem_of_getElem? hb))
theorem playS_len (M : List (List Rat)) : ∀ (n : Nat) (r c : List Rat), (playS M n r c).length = n
  | 0, _, _ => rfl
  | n + 1, r, c => by rw [playS, List.length_cons, playS_len M n]
theorem repl_set {n i : Nat} (h : i < n) : (List.replicate i (some (0 : Rat)) ++ List.replicate (n - i) none).set i (some 0) = List.replicate (i + 1) (some 0) ++ List.replicate (n - (i + 1)) none := by
  rw [List.set_append_right _ _ (by rw [List.length_replicate]; omega), List.length_replicate, Nat.sub_self, show n - i = (n - (i + 1)) + 1 by omega, List.replicate_succ, List.set_cons_zero, List.replicate_succ', List.append_assoc]
  rfl
theorem repl_len {n i : Nat} (h : i ≤ n) : (List.replicate i (some (0 : Rat)) ++ List.replicate (n - i) none).length = n := by
  rw [List.length_append, List.length_replicate, List.length_replicate]; omega

set_option maxHeartbeats 1600000 in
set_option maxRecDepth 100000 in
theorem play_err (v : Value) (m : List (List ByteArray)) (n : Int) (w : World) (hv : Rows Value.string w v m) (hs : ∀ l ∈ m, ∀ s ∈ l, s.size ≤ 9223372036854775806) (he : playE m n ≠ 0) :
    Calls Tryz.prog 11 #[v, .int .i64 n] w fun e w' => e = .returned (.tuple #[.slice none 0 0, .int .i64 (playE m n)]) ∧ Ext w w' := by
  have HC := Lib.hid (gCheck_any v m w hv hs _ rfl)
  obtain ⟨us, hr, hul, hel⟩ := hv
  obtain ⟨ao, c, rfl, _, hlen, _, hc⟩ := hr
  unfold playE at *
  generalize gameE m = p at *
  clear hc hel hul hs
  by_cases hp : p = 0
  · subst hp
    rw [if_neg (by simp)] at *
    by_cases h0 : n < 0
    · rw [if_pos (.inl h0)]
      clear he
      go_enter Tryz.func11, Tryz.ntmps11
      go_wp2_with fail
      refine HC.out.mono ?_
      rintro e w1 ⟨rfl, X1⟩
      go_wp2_with fail
      go_ret2
      exact ⟨rfl, X1⟩
    · by_cases h1 : 200 < n
      · rw [if_pos (.inr h1)]
        have h0 : 0 ≤ n := by omega
        clear he
        go_enter Tryz.func11, Tryz.ntmps11
        go_wp2_with fail
        refine HC.out.mono ?_
        rintro e w1 ⟨rfl, X1⟩
        go_wp2_with fail
        go_ret2
        exact ⟨rfl, X1⟩
      · rw [if_neg (by omega)] at he; exact absurd rfl he
  · rw [if_pos hp]
    have hb : (p != 0) = true := by simp [hp]
    clear he hp
    go_enter Tryz.func11, Tryz.ntmps11
    go_wp2_with fail
    refine HC.out.mono ?_
    rintro e w1 ⟨rfl, X1⟩
    go_wp2_with fail
    go_ret2
    exact ⟨rfl, X1⟩

/-- a slice is no longer than its room -/
def CapOk (v : Value) : Prop := ∀ ao l c, v = .slice ao l c → l ≤ c
theorem own_cap {w : World} {B s n : Nat} {e : TypeId} {v : Value} {xs : List Value} (h : w.ownsRow B e s v n xs) : CapOk v := fun ao l c hv => by
  rcases h.2 with ⟨e, _⟩ | ⟨g, cap, cur, e, _, _, hc, _⟩
  · rw [e] at hv
    cases hv
    exact Nat.le_refl _
  · rw [e] at hv
    cases hv
    exact hc
set_option maxHeartbeats 6400000 in
set_option maxRecDepth 100000 in
theorem play_goC (v : Value) (m : List (List ByteArray)) (n : Nat) (w : World) (hv : Rows Value.string w v m) (hs : ∀ l ∈ m, ∀ s ∈ l, s.size ≤ 9223372036854775806) (he : gameE m = 0) (hn : n ≤ 200) :
    Calls Tryz.prog 11 #[v, .int .i64 n] w fun e w' => ∃ u, e = .returned (.tuple #[u, .int .i64 0]) ∧ (Prs w' u (playQ m n) ∧ CapOk u) ∧ Ext w w' := by
  have hm := matOk_of hs he
  obtain ⟨z1, z2, z3, z4, z5⟩ := gameE_zero he
  have HC := Lib.hid (by have := gCheck_any v m w hv hs _ rfl; rwa [he] at this)
  have HIN := Lib.hid (fun W (hx : Ext w W) => mIn_any v m W (hv.ext hx) hm.ok (by have := hm.len; omega) (fun l hl => by have := hm.rect l hl; have := hm.wide; omega))
  have HO0 := Lib.hid (fun W => qOf_any 0 W (by omega) (by omega))
  have hrb : ∀ l ∈ m, ∀ s ∈ l, RB 2000 (ratOf s) := fun l hl s h2 => ratOf_RB2k (hm.ok l hl s h2).1
  have HMB := Lib.hid (numM_RB hrb)
  have HML := Lib.hid (numM_len hm.rect)
  have HNL : Hid ((numM m).length = m.length) := List.length_map ..
  obtain ⟨us, hr, hul, hel⟩ := hv
  obtain ⟨ao, c, rfl, _, hlen, _, hc⟩ := hr
  obtain ⟨u0, e1, _, _⟩ := get_lt (show 0 < us.length by omega)
  obtain ⟨l0, r1, _, _⟩ := get_lt (xs := m) (k := 0) z5
  obtain ⟨b, off0, rfl, hc1⟩ := hc 0 u0 e1.out
  have hc1 : w.cell? ⟨b, off0, none⟩ = some u0 := hc1
  obtain ⟨ao3, c3, rfl, hlen3, _⟩ := (hel 0 u0 l0 e1.out r1.out).open
  have hwl : wideL m = l0.length := by unfold wideL; rw [List.headD_eq_head?_getD, List.head?_eq_getElem?, r1.out]; rfl
  unfold playQ
  rw [show m.map (·.map ratOf) = numM m from rfl] at HIN
  rw [hwl] at HML z3 z4 ⊢
  rw [← hul] at HNL z1 z5 ⊢
  obtain ⟨nr, hnr⟩ : ∃ nr, us.length = nr := ⟨_, rfl⟩
  obtain ⟨nc, hnc⟩ : ∃ nc, l0.length = nc := ⟨_, rfl⟩
  rw [hnr] at HNL z1 z5 HIN HC ⊢
  rw [hnc] at HML z3 z4 hc1 ⊢
  obtain ⟨FIN, hFIN⟩ : ∃ FIN, playS (numM m) n (List.replicate nr 0) (List.replicate nc 0) = FIN := ⟨_, rfl⟩
  rw [hFIN]
  have HFIN := Lib.hid hFIN
  have HFL : Hid (FIN.length = n) := by show _ = _; rw [← hFIN, playS_len]
  generalize numM m = M at *
  have hn0 : (0 : Int) ≤ (n : Int) := by omega
  have hn2 : (n : Int) ≤ 200 := by omega
  have hnri : (0 : Int) < (nr : Int) := by omega
  clear hc hel hul he hs hm hrb z2 hnr hnc hwl hFIN
  go_enter Tryz.func11, Tryz.ntmps11
  go_wp2_with fail
  refine HC.out.mono ?_
  rintro e w1 ⟨rfl, X1⟩
  go_wp2_with fail
  refine (HIN.out _ X1).mono ?_
  rintro e w2 ⟨u7, rfl, h7, X2⟩
  have hK := h7.toK
  obtain ⟨us7, hr7, hul7, _⟩ := h7
  obtain ⟨ao7, cx, rfl, _, hlx7, _, hc7⟩ := hr7
  obtain ⟨x0, q1, _, _⟩ := get_lt (xs := us7) (k := 0) (by have := HNL.out; omega)
  obtain ⟨bo, off, rfl, _⟩ := hc7 0 x0 q1.out
  have HX := Lib.hid hK
  obtain ⟨lx, hlx⟩ : ∃ lx, us7.length = lx := ⟨_, rfl⟩
  rw [hlx] at HX
  have HLX : Hid (lx = nr) := by show _ = _; rw [← hlx, hul7, HNL.out]
  obtain ⟨K7, hK7⟩ : ∃ K7, w2.heap.size = K7 := ⟨_, rfl⟩
  rw [hK7] at HX
  have XA := X1.trans X2
  have hc2 := XA.cell hc1
  have hwK : w.heap.size ≤ K7 := by have := XA.size; omega
  rw [hlx]
  clear hK hc7 hlx hul7 X1 X2 HC HIN hlx7
  obtain ⟨iq, iq1, iq2, iq3, iq4⟩ := ei_q.info
  go_wp2_with (first
    | (refine wpList_make_full _ rfl _ _ _ rfl K7 78 iq (.agg #[.bool false, .slice none 0 0, .slice none 0 0]) 3 ei_q.und iq1 iq2 iq3 .i64 .i64 _ _ nr rfl rfl rfl rfl (by rw [iq4]; omega) (by unfold maxLen; omega) (by omega) ?_; intro w3 hm1 hm2; have X3 : Ext w2 w3 := ⟨hm2.os, hm2.tape, hm2.output, hm2.size, fun k hk => hm2.block k hk (by simp)⟩; have hc3 := X3.cell hc2; have hsz3 := (hm1.lt _ rfl).2)
    | (refine wpList_make_full _ rfl _ _ _ rfl K7 78 iq (.agg #[.bool false, .slice none 0 0, .slice none 0 0]) 3 ei_q.und iq1 iq2 iq3 .i64 .i64 _ _ nc rfl rfl rfl rfl (by rw [iq4]; omega) (by unfold maxLen; omega) (by have := X3.size; omega) ?_; intro w4 hm3 hm4; have X4 : Ext w3 w4 := ⟨hm4.os, hm4.tape, hm4.output, hm4.size, fun k hk => hm4.block k hk (by simp)⟩; have hsz4 := (hm3.lt _ rfl).2))
  obtain ⟨g9, hg9⟩ : ∃ g9, w3.heap.size = g9 := ⟨_, rfl⟩
  rw [hg9] at hm3 hsz4
  rw [hK7] at hm1 hsz3
  have HR1 := Lib.hid ((QsG.made hm1).ext X4)
  have HR2 := Lib.hid (QsG.made hm3)
  have HX := Lib.hid ((HX.out.ext X3).ext X4)
  have XA := (XA.trans X3).trans X4
  have hg79 : K7 < g9 := by omega
  rw [hg9]
  clear hc3 hc2 hc1 hm1 hm2 hm3 hm4 X3 X4 hsz3 hK7 hg9 iq1 iq2 iq3 iq4
  go_wp2_with fail
  go_loopw [40] (fun iv wr => ∃ (i : Nat), i ≤ nr ∧ iv = .int .i64 i ∧ Hid (QsG wr K7 (.slice (some ⟨K7, 0, none⟩) nr nr) (List.replicate i (some 0) ++ List.replicate (nr - i) none)) ∧ Hid (QsG wr K7 (.slice (some ⟨g9, 0, none⟩) nc nc) (List.replicate nc none)) ∧ Hid (QssK K7 wr (.slice (some ⟨bo, off, none⟩) lx cx) M) ∧ Ext w wr) (fun iv _ => nr - (intOf iv).toNat)
  case atStart => exact ⟨0, Nat.zero_le _, rfl, by show QsG _ _ _ _; exact (by rw [List.replicate_zero, List.nil_append, Nat.sub_zero]; exact HR1.out), HR2, HX, XA⟩
  case round =>
    clear HR1 HR2 HX XA
    obtain ⟨i, hi, rfl, HQ, HOT, HX, X⟩ := hrel
    by_cases hlt : i < nr
    · have hlg := repl_len (n := nr) (i := i) hi
      have HST := Lib.hid (repl_set hlt)
      have hki : (i : Int) < (nr : Int) := by omega
      go_wp2_with fail
      refine (HO0.out _).mono ?_
      rintro e wa ⟨ua, rfl, ha, Xa⟩
      obtain ⟨s9, ao9, l9, c9, bo9, m9, d9, rfl, _, _, _⟩ := ha.opn
      obtain ⟨x9, y9, z9, hst, hput⟩ := (HQ.out.ext Xa).stored (i := i) (by rw [hlg]; exact hlt)
      obtain ⟨w7, h7, hgr, hO7⟩ := hput _ _ _ _ _ _ _ _ ha
      have f0 := hst.f0
      have c0 := hst.c0
      have f1 := hst.f1
      have c1 := hst.c1
      have f2 := hst.f2
      have c2 := hst.c2
      have HCL := (HQ.out.ext Xa).clean
      have HP := hO7
      rw [show ((0 : Int) : Rat) = 0 from rfl, HST.out] at HP
      have HP := Lib.hid HP
      have HOP := Lib.hid (QsG.kept (v := .slice (some ⟨K7, 0, none⟩) nr nr) HCL hgr (HOT.out.ext Xa) (.inr (by simp [Value.ownBlock]; omega)))
      have HXP := Lib.hid (QssK.kept (v := .slice (some ⟨K7, 0, none⟩) nr nr) HCL hgr (fun k hk => by simp only [Value.ownBlock, Option.some.injEq] at hk; omega) (HX.out.ext Xa))
      have X7 := (X.trans Xa).grown hgr (by omega)
      clear hst hput hO7 HCL hgr ha hlg
      go_wp2_with fail
      go_roundw
      case rel => exact ⟨i + 1, by omega, by go_num, HP, HOP, HXP, X7⟩
      case measure => simp [intOf] <;> omega
    · have hil : nr = i := by omega
      have HQ9 := HQ.out
      rw [← hil, Nat.sub_self, List.replicate_zero, List.append_nil, show List.replicate nr (some (0 : Rat)) = (List.replicate nr 0).map some by rw [List.map_replicate]] at HQ9
      have HRO := Lib.hid HQ9.full
      have HOT := HOT
      have XA := X
      clear hil HQ HQ9 X hi
      have HR2 := HOT
      clear HOT
      go_wp2_with fail
      go_loopw [50] (fun iv wr => ∃ (i : Nat), i ≤ nc ∧ iv = .int .i64 i ∧ Hid (QsG wr K7 (.slice (some ⟨g9, 0, none⟩) nc nc) (List.replicate i (some 0) ++ List.replicate (nc - i) none)) ∧ Hid (QsO wr K7 (.slice (some ⟨K7, 0, none⟩) nr nr) (List.replicate nr 0)) ∧ Hid (QssK K7 wr (.slice (some ⟨bo, off, none⟩) lx cx) M) ∧ Ext w wr) (fun iv _ => nc - (intOf iv).toNat)
      case atStart => exact ⟨0, Nat.zero_le _, rfl, by show QsG _ _ _ _; exact (by rw [List.replicate_zero, List.nil_append, Nat.sub_zero]; exact HR2.out), HRO, HX, XA⟩
      case round =>
        clear HR2 HRO HX XA
        obtain ⟨i, hi, rfl, HQ, HOT, HX, X⟩ := hrel
        by_cases hlt : i < nc
        · have hlg := repl_len (n := nc) (i := i) hi
          have HST := Lib.hid (repl_set hlt)
          have hki : (i : Int) < (nc : Int) := by omega
          go_wp2_with fail
          refine (HO0.out _).mono ?_
          rintro e wa ⟨ua, rfl, ha, Xa⟩
          obtain ⟨s9, ao9, l9, c9, bo9, m9, d9, rfl, _, _, _⟩ := ha.opn
          obtain ⟨x9, y9, z9, hst, hput⟩ := (HQ.out.ext Xa).stored (i := i) (by rw [hlg]; exact hlt)
          obtain ⟨w7, h7, hgr, hO7⟩ := hput _ _ _ _ _ _ _ _ ha
          have f0 := hst.f0
          have c0 := hst.c0
          have f1 := hst.f1
          have c1 := hst.c1
          have f2 := hst.f2
          have c2 := hst.c2
          have HCL := (HQ.out.ext Xa).clean
          have HP := hO7
          rw [show ((0 : Int) : Rat) = 0 from rfl, HST.out] at HP
          have HP := Lib.hid HP
          have HOP := Lib.hid (QsO.kept (v := .slice (some ⟨g9, 0, none⟩) nc nc) HCL hgr (HOT.out.ext Xa) (.inr (by simp [Value.ownBlock]; omega)))
          have HXP := Lib.hid (QssK.kept (v := .slice (some ⟨g9, 0, none⟩) nc nc) HCL hgr (fun k hk => by simp only [Value.ownBlock, Option.some.injEq] at hk; omega) (HX.out.ext Xa))
          have X7 := (X.trans Xa).grown hgr (by omega)
          clear hst hput hO7 HCL hgr ha hlg
          go_wp2_with fail
          go_roundw
          case rel => exact ⟨i + 1, by omega, by go_num, HP, HOP, HXP, X7⟩
          case measure => simp [intOf] <;> omega
        · have hil : nc = i := by omega
          have HQ9 := HQ.out
          rw [← hil, Nat.sub_self, List.replicate_zero, List.append_nil, show List.replicate nc (some (0 : Rat)) = (List.replicate nc 0).map some by rw [List.map_replicate]] at HQ9
          have HCO := Lib.hid HQ9.full
          have HOT := HOT
          have XA := X
          clear hil HQ HQ9 X hi
          obtain ⟨wS, rfl⟩ : ∃ wS : World, wS = wr := ⟨_, rfl⟩
          obtain ⟨B3, hB3e⟩ : ∃ B3, wS.heap.size = B3 := ⟨_, rfl⟩
          have hg9B : g9 < B3 := by rw [← hB3e]; exact (HCO.out.lt g9 rfl).2
          have hB3 : B3 ≤ wS.heap.size := by omega
          have HLR : Hid ((List.replicate nr (0 : Rat)).length = nr) := List.length_replicate
          have HLC : Hid ((List.replicate nc (0 : Rat)).length = nc) := List.length_replicate
          clear hB3e
          go_wp2_with fail
          go_loopw [12, 59] (fun ov iv wr => ∃ (i : Nat) (rows cols : List Rat) (done : List (Int × Int)), i ≤ n ∧ iv = .int .i64 i ∧ Hid (rows.length = nr) ∧ Hid (cols.length = nc) ∧ Hid (∀ q ∈ rows, RB (1 + 2001 * i) q) ∧ Hid (∀ q ∈ cols, RB (1 + 2001 * i) q) ∧
            Hid (QsO wr K7 (.slice (some ⟨K7, 0, none⟩) nr nr) rows) ∧ Hid (QsO wr K7 (.slice (some ⟨g9, 0, none⟩) nc nc) cols) ∧ Hid (PrsO wr B3 ov done) ∧ Hid (done.length = i) ∧ Hid (QssK K7 wr (.slice (some ⟨bo, off, none⟩) lx cx) M) ∧ B3 ≤ wr.heap.size ∧ Ext w wr ∧ Hid (done ++ playS M (n - i) rows cols = FIN)) (fun _ iv _ => n - (intOf iv).toNat)
          case atStart => exact ⟨0, _, _, [], Nat.zero_le _, rfl, HLR, HLC, fun q hq => by rw [(List.mem_replicate.1 hq).2]; exact RB_zero, fun q hq => by rw [(List.mem_replicate.1 hq).2]; exact RB_zero, HOT, HCO, PrsO.nil _ _, rfl, HX, hB3, XA, HFIN⟩
          case round =>
            clear HOT HCO HX hB3 XA HFIN HLR HLC
            obtain ⟨i, rows, cols, done, hi, rfl, HL1, HL2, HRB1, HRB2, HRO, HCO, HPO, HDL, HX, hB3, X, HF⟩ := hrel
            by_cases hlt : i < n
            · have hi2 := HF.out
              rw [show n - i = (n - (i + 1)) + 1 by omega, playS] at hi2
              have hb1 := bestS_lt 1 rows rows 0 0 (by omega) (by have := HL1.out; omega)
              have hb2 := bestS_lt (-1) cols cols 0 0 (by omega) (by have := HL2.out; omega)
              have HB1 := Lib.hid (fun (x : Value) W hx => best_up x rows W hx (by have := HL1.out; omega) (fun q hq => RB_QB (HRB1.out q hq) (by omega)))
              have HB2 := Lib.hid (fun (x : Value) W hx => best_down x cols W hx (by have := HL2.out; omega) (fun q hq => RB_QB (HRB2.out q hq) (by omega)))
              rw [HL1.out] at hb1
              rw [HL2.out] at hb2
              generalize bestS 1 rows rows 0 0 = a at *
              generalize bestS (-1) cols cols 0 0 = b at *
              have hki : (i : Int) < (n : Int) := by omega
              have HA := Lib.hid hi2
              clear hi2 HF
              obtain ⟨w5, rfl⟩ : ∃ w5 : World, w5 = wr := ⟨_, rfl⟩
              go_wp2_with fail
              refine (HB1.out _ _ (by exact HRO.out.toV (by have := HL1.out; omega))).mono ?_
              rintro e w6 ⟨rfl, X6⟩
              go_wp2_with fail
              refine (HB2.out _ _ (by exact (HCO.out.ext X6).toV (by have := HL2.out; omega))).mono ?_
              rintro e w8 ⟨rfl, X8⟩
              have XY := X6.trans X8
              have HP8 := HPO.out.ext XY
              have hsz8 : B3 ≤ w8.heap.size := Nat.le_trans hB3 XY.size
              have HD2 := HDL.out
              go_wp2_with (at_builtin; refine wp_app2c (s := .tmp 65) (x := .tmp 69) rfl rfl ei_pr zc_pr HP8.1 HP8.2 rfl rfl rfl rfl rfl (by intro y hy d; simp at hy; rcases hy with rfl | rfl <;> simp [encD]) (by omega) (by omega) hsz8 ?_; intro v9 w9 hown hgrew hcl9)
              have HPO9 : PrsO w9 B3 v9 (done ++ [((a : Int), (b : Int))]) := ⟨by rw [List.length_append, flatP_app]; exact hown, hcl9⟩
              have HQA := Lib.hid (QsO.kept HP8.2 hgrew.by' (HRO.out.ext XY) (.inr fun e0 => by have := (HP8.1.lt K7 (by rw [← e0]; rfl)).1; omega))
              have HQD := Lib.hid (QsO.kept HP8.2 hgrew.by' (HCO.out.ext XY) (.inr fun e0 => by have := (HP8.1.lt g9 (by rw [← e0]; rfl)).1; omega))
              have HX := Lib.hid (QssK.kept HP8.2 hgrew.by' (fun k hk => by have := (HP8.1.lt k hk).1; omega) (HX.out.ext XY))
              have XA := hgrew.ext (X.trans XY) (fun k hk => by have := (HP8.1.lt k hk).1; omega)
              have hB3 : B3 ≤ w9.heap.size := Nat.le_trans hsz8 hgrew.by'.size
              have HDL9 : Hid ((done ++ [((a : Int), (b : Int))]).length = i + 1) := by show _ = _; rw [List.length_append, HD2]; rfl
              have HFN : Hid ((done ++ [((a : Int), (b : Int))]) ++ playS M (n - (i + 1)) (addQs rows (colQ M b)) (addQs cols (M.getD a [])) = FIN) := by show _ = _; rw [← HA.out, List.append_assoc]; rfl
              have hMa : M[a]? = some (M.getD a []) := by
                have h2 : a < M.length := by rw [HNL.out]; exact hb1
                rw [List.getD_eq_getElem?_getD, List.getElem?_eq_getElem h2]
                rfl
              have hLa := HML.out _ (List.mem_of_getElem? hMa)
              have hcq : (colQ M b).length = rows.length := by unfold colQ; rw [List.length_map, HNL.out, HL1.out]
              have HLZ1 : Hid ((addQs rows (colQ M b)).length = rows.length) := addQs_len hcq
              have HLZ2 : Hid ((addQs cols (M.getD a [])).length = cols.length) := addQs_len (by rw [hLa, HL2.out])
              have HL1N : Hid ((addQs rows (colQ M b)).length = nr) := by show _ = _; rw [HLZ1.out, HL1.out]
              have HL2N : Hid ((addQs cols (M.getD a [])).length = nc) := by show _ = _; rw [HLZ2.out, HL2.out]
              have HRB1N : Hid (∀ q ∈ addQs rows (colQ M b), RB (1 + 2001 * (i + 1)) q) := fun q hq => (addQs_RB HRB1.out (colQ_RB HMB.out (by omega) b) q hq).mono (by omega)
              have HRB2N : Hid (∀ q ∈ addQs cols (M.getD a []), RB (1 + 2001 * (i + 1)) q) := fun q hq => (addQs_RB HRB2.out (HMB.out _ (List.mem_of_getElem? hMa)) q hq).mono (by omega)
              have HEL1 : Hid (∀ j, j < nr → ∃ r rw7, M[j]? = some rw7 ∧ rw7[b]? = some r) := fun j hj => by
                have h2 : j < M.length := by rw [HNL.out]; exact hj
                have h3 := HML.out _ (List.getElem_mem h2)
                exact ⟨_, _, List.getElem?_eq_getElem h2, List.getElem?_eq_getElem (by rw [h3]; exact hb2)⟩
              have HEL2 : Hid (∀ j, j < nc → ∃ r rw7, M[a]? = some rw7 ∧ rw7[j]? = some r) := fun j hj => ⟨_, _, hMa, List.getElem?_eq_getElem (by rw [hLa]; exact hj)⟩
              have HZG1 : Hid (∀ (j : Nat) q r rw7, rows[j]? = some q → M[j]? = some rw7 → rw7[b]? = some r → (addQs rows (colQ M b))[j]? = some (q + r)) := fun j q r rw7 h1 h2 h3 => addQs_get h1 (by unfold colQ; rw [List.getElem?_map, h2]; show some (rw7.getD b 0) = _; rw [List.getD_eq_getElem?_getD, h3]; rfl)
              have HZG2 : Hid (∀ (j : Nat) q r rw7, cols[j]? = some q → M[a]? = some rw7 → rw7[j]? = some r → (addQs cols (M.getD a []))[j]? = some (q + r)) := fun j q r rw7 h1 h2 h3 => addQs_get h1 (by rw [hMa] at h2; cases h2; exact h3)
              have HPO := Lib.hid HPO9
              generalize addQs rows (colQ M b) = rows2 at *
              generalize addQs cols (M.getD a []) = cols2 at *
              generalize done ++ [((a : Int), (b : Int))] = done9 at *
              clear hown hgrew hcl9 HPO9 HP8 hsz8 XY X6 X8 X HRO HCO HA hMa hLa hcq HB1 HB2 HD2 HDL
              go_wp2_with fail
              go_loopw [73] (fun iv wr => ∃ (j : Nat), j ≤ nr ∧ iv = .int .i64 j ∧ Hid (QsO wr K7 (.slice (some ⟨K7, 0, none⟩) nr nr) (mixTo rows rows2 j)) ∧ Hid (QsO wr K7 (.slice (some ⟨g9, 0, none⟩) nc nc) cols) ∧ Hid (PrsO wr B3 v9 done9) ∧ Hid (QssK K7 wr (.slice (some ⟨bo, off, none⟩) lx cx) M) ∧ B3 ≤ wr.heap.size ∧ Ext w wr) (fun iv _ => nr - (intOf iv).toNat)
              case atStart => exact ⟨0, Nat.zero_le _, rfl, by show QsO _ _ _ _; rw [mixTo_zero]; exact HQA.out, HQD, HPO, HX, hB3, XA⟩
              case round =>
                clear HQA HQD HPO HX XA hB3
                obtain ⟨j, hj, rfl, HQ, HOT, HPO, HX, hB3, X⟩ := hrel
                by_cases hlt : j < nr
                · obtain ⟨q, e1, _, _⟩ := get_lt (xs := rows) (k := j) (by have := HL1.out; omega)
                  obtain ⟨r, rw7, hrA, hrB⟩ := HEL1.out j hlt
                  have hqi := mixTo_get (zs := rows2) HLZ1.out e1.out
                  have HZG := HZG1.out j q r rw7 e1.out hrA hrB
                  have HST := Lib.hid (mixTo_set (ys := rows) HLZ1.out HZG)
                  have hml := mixTo_len HLZ1.out j
                  have HQB1 := Lib.hid (RB_QB (HRB1.out q (List.mem_of_getElem? e1.out)) (by omega))
                  have HQB2 := Lib.hid (RB_QB (HMB.out rw7 (List.mem_of_getElem? hrA) r (List.mem_of_getElem? hrB)) (by omega))
                  have HAD := Lib.hid (fun (u v : Value) W hu hv => qAdd_any u v q r W hu hv HQB1.out HQB2.out)
                  obtain ⟨g', s5, ao5, l5, c5, bo5, m5, d5, hg', e0, e1', e2, hq5⟩ := HQ.out.cells (by rw [hml, HL1.out]; omega) j q hqi
                  simp only [Option.some.injEq, Addr.mk.injEq, and_true] at hg'
                  subst hg'
                  obtain ⟨bo', off', lx', cx', g7, l7, c7, s8, a8, l8, c8, b8, m8, d8, ev, hlx, y, hl7, y0, y1, y2, hr7⟩ := HX.out.at (i := j) (k := b) hrA hrB
                  simp only [Value.slice.injEq, Option.some.injEq, Addr.mk.injEq, and_true] at ev
                  obtain ⟨⟨rfl, rfl⟩, rfl, rfl⟩ := ev
                  have hil : j < (mixTo rows rows2 j).length := by rw [hml, HL1.out]; exact hlt
                  have hki : (j : Int) < (nr : Int) := by omega
                  have hb7 : (j : Int) < (lx : Int) := by have := HLX.out; omega
                  have hb8 : (b : Int) < (l7 : Int) := by have := HML.out rw7 (List.mem_of_getElem? hrA); omega
                  have HQ5 := Lib.hid hq5
                  have HR7 := Lib.hid hr7
                  obtain ⟨Y2, hY2⟩ : ∃ Y2, mixTo rows rows2 (j + 1) = Y2 := ⟨_, rfl⟩
                  rw [hY2] at HST
                  have HY22 := Lib.hid hY2
                  clear hq5 hr7 hqi HZG hml hlx hl7 hY2
                  generalize mixTo rows rows2 j = Y1 at *
                  obtain ⟨w4, rfl⟩ : ∃ w4 : World, w4 = wr := ⟨_, rfl⟩
                  go_wp2_with fail
                  go_region_law (first
                    | (go_simp; go_at_call 52; refine (HAD.out _ _ _ (by exact HQ5.out.ext (Ext.refl w4).drew) (by exact HR7.out.ext (Ext.refl w4).drew)).mono ?_; rintro e wa ⟨ua, rfl, ha, Ya⟩; obtain ⟨s9, ao9, l9, c9, bo9, m9, d9, rfl, _, _, _⟩ := ha.opn; have Xa : Ext w4 wa := (Ext.refl w4).drew.trans Ya; have HV := Lib.hid ha; obtain ⟨x9, y9, z9, hst, hput⟩ := (HQ.out.ext Xa).stored hil; have HPU := Lib.hid hput; have f0 := hst.f0; have c0 := hst.c0; have f1 := hst.f1; have c1 := hst.c1; have f2 := hst.f2; have c2 := hst.c2; clear ha hst hput))
                  all_goals
                    obtain ⟨w7, h7, hgr, hO7⟩ := HPU.out _ _ _ _ _ _ _ _ HV.out
                    rw [h7]
                    have HCL := (HQ.out.ext Xa).clean
                    have HP := hO7
                    rw [HST.out] at HP
                    have HP := Lib.hid HP
                    have HOP := Lib.hid (QsO.kept (v := .slice (some ⟨K7, 0, none⟩) nr nr) HCL hgr (HOT.out.ext Xa) (.inr (by simp [Value.ownBlock]; omega)))
                    have HPP := Lib.hid (PrsO.kept (v := .slice (some ⟨K7, 0, none⟩) nr nr) hgr (HPO.out.ext Xa) (.inr (fun e0 => by have := ((HPO.out.1).lt _ e0).1; simp only [Value.ownBlock] at *; omega)))
                    have HXP := Lib.hid (QssK.kept (v := .slice (some ⟨K7, 0, none⟩) nr nr) HCL hgr (fun k hk => by simp only [Value.ownBlock, Option.some.injEq] at hk; omega) (HX.out.ext Xa))
                    have X7 := (X.trans Xa).grown hgr (by omega)
                    have hB7 : B3 ≤ w7.heap.size := Nat.le_trans hB3 (Nat.le_trans Xa.size hgr.size)
                    clear h7 hO7 HCL f0 c0 f1 c1 f2 c2 e0 e1' e2 y y0 y1 y2 hgr
                    go_wp2_with fail
                    go_roundw
                    case rel => exact ⟨j + 1, by omega, by go_num, by show QsO _ _ _ _; rw [HY22.out]; exact HP.out, HOP, HPP, HXP, hB7, X7⟩
                    case measure => simp [intOf] <;> omega
                · have hjl : rows.length = j := by have := HL1.out; omega
                  have HQ9 := HQ.out
                  rw [← hjl, mixTo_all HLZ1.out] at HQ9
                  have HQN := Lib.hid HQ9
                  have HOT := HOT
                  have HPO := HPO
                  have HX := HX
                  have XA := X
                  clear hjl HQ HQ9 X hj
                  have HQA := HOT
                  have HQD := HQN
                  clear HOT HQN
                  go_wp2_with fail
                  go_loopw [94] (fun iv wr => ∃ (j : Nat), j ≤ nc ∧ iv = .int .i64 j ∧ Hid (QsO wr K7 (.slice (some ⟨g9, 0, none⟩) nc nc) (mixTo cols cols2 j)) ∧ Hid (QsO wr K7 (.slice (some ⟨K7, 0, none⟩) nr nr) rows2) ∧ Hid (PrsO wr B3 v9 done9) ∧ Hid (QssK K7 wr (.slice (some ⟨bo, off, none⟩) lx cx) M) ∧ B3 ≤ wr.heap.size ∧ Ext w wr) (fun iv _ => nc - (intOf iv).toNat)
                  case atStart => exact ⟨0, Nat.zero_le _, rfl, by show QsO _ _ _ _; rw [mixTo_zero]; exact HQA.out, HQD, HPO, HX, hB3, XA⟩
                  case round =>
                    clear HQA HQD HPO HX XA hB3
                    obtain ⟨j, hj, rfl, HQ, HOT, HPO, HX, hB3, X⟩ := hrel
                    by_cases hlt : j < nc
                    · obtain ⟨q, e1, _, _⟩ := get_lt (xs := cols) (k := j) (by have := HL2.out; omega)
                      obtain ⟨r, rw7, hrA, hrB⟩ := HEL2.out j hlt
                      have hqi := mixTo_get (zs := cols2) HLZ2.out e1.out
                      have HZG := HZG2.out j q r rw7 e1.out hrA hrB
                      have HST := Lib.hid (mixTo_set (ys := cols) HLZ2.out HZG)
                      have hml := mixTo_len HLZ2.out j
                      have HQB1 := Lib.hid (RB_QB (HRB2.out q (List.mem_of_getElem? e1.out)) (by omega))
                      have HQB2 := Lib.hid (RB_QB (HMB.out rw7 (List.mem_of_getElem? hrA) r (List.mem_of_getElem? hrB)) (by omega))
                      have HAD := Lib.hid (fun (u v : Value) W hu hv => qAdd_any u v q r W hu hv HQB1.out HQB2.out)
                      obtain ⟨g', s5, ao5, l5, c5, bo5, m5, d5, hg', e0, e1', e2, hq5⟩ := HQ.out.cells (by rw [hml, HL2.out]; omega) j q hqi
                      simp only [Option.some.injEq, Addr.mk.injEq, and_true] at hg'
                      subst hg'
                      obtain ⟨bo', off', lx', cx', g7, l7, c7, s8, a8, l8, c8, b8, m8, d8, ev, hlx, y, hl7, y0, y1, y2, hr7⟩ := HX.out.at (i := a) (k := j) hrA hrB
                      simp only [Value.slice.injEq, Option.some.injEq, Addr.mk.injEq, and_true] at ev
                      obtain ⟨⟨rfl, rfl⟩, rfl, rfl⟩ := ev
                      have hil : j < (mixTo cols cols2 j).length := by rw [hml, HL2.out]; exact hlt
                      have hki : (j : Int) < (nc : Int) := by omega
                      have hb7 : (a : Int) < (lx : Int) := by have := HLX.out; omega
                      have hb8 : (j : Int) < (l7 : Int) := by have := HML.out rw7 (List.mem_of_getElem? hrA); omega
                      have HQ5 := Lib.hid hq5
                      have HR7 := Lib.hid hr7
                      obtain ⟨Y2, hY2⟩ : ∃ Y2, mixTo cols cols2 (j + 1) = Y2 := ⟨_, rfl⟩
                      rw [hY2] at HST
                      have HY22 := Lib.hid hY2
                      clear hq5 hr7 hqi HZG hml hlx hl7 hY2
                      generalize mixTo cols cols2 j = Y1 at *
                      obtain ⟨w4, rfl⟩ : ∃ w4 : World, w4 = wr := ⟨_, rfl⟩
                      go_wp2_with fail
                      go_region_law (first
                        | (go_simp; go_at_call 52; refine (HAD.out _ _ _ (by exact HQ5.out.ext (Ext.refl w4).drew) (by exact HR7.out.ext (Ext.refl w4).drew)).mono ?_; rintro e wa ⟨ua, rfl, ha, Ya⟩; obtain ⟨s9, ao9, l9, c9, bo9, m9, d9, rfl, _, _, _⟩ := ha.opn; have Xa : Ext w4 wa := (Ext.refl w4).drew.trans Ya; have HV := Lib.hid ha; obtain ⟨x9, y9, z9, hst, hput⟩ := (HQ.out.ext Xa).stored hil; have HPU := Lib.hid hput; have f0 := hst.f0; have c0 := hst.c0; have f1 := hst.f1; have c1 := hst.c1; have f2 := hst.f2; have c2 := hst.c2; clear ha hst hput))
                      all_goals
                        obtain ⟨w7, h7, hgr, hO7⟩ := HPU.out _ _ _ _ _ _ _ _ HV.out
                        rw [h7]
                        have HCL := (HQ.out.ext Xa).clean
                        have HP := hO7
                        rw [HST.out] at HP
                        have HP := Lib.hid HP
                        have HOP := Lib.hid (QsO.kept (v := .slice (some ⟨g9, 0, none⟩) nc nc) HCL hgr (HOT.out.ext Xa) (.inr (by simp [Value.ownBlock]; omega)))
                        have HPP := Lib.hid (PrsO.kept (v := .slice (some ⟨g9, 0, none⟩) nc nc) hgr (HPO.out.ext Xa) (.inr (fun e0 => by have := ((HPO.out.1).lt _ e0).1; simp only [Value.ownBlock] at *; omega)))
                        have HXP := Lib.hid (QssK.kept (v := .slice (some ⟨g9, 0, none⟩) nc nc) HCL hgr (fun k hk => by simp only [Value.ownBlock, Option.some.injEq] at hk; omega) (HX.out.ext Xa))
                        have X7 := (X.trans Xa).grown hgr (by omega)
                        have hB7 : B3 ≤ w7.heap.size := Nat.le_trans hB3 (Nat.le_trans Xa.size hgr.size)
                        clear h7 hO7 HCL f0 c0 f1 c1 f2 c2 e0 e1' e2 y y0 y1 y2 hgr
                        go_wp2_with fail
                        go_roundw
                        case rel => exact ⟨j + 1, by omega, by go_num, by show QsO _ _ _ _; rw [HY22.out]; exact HP.out, HOP, HPP, HXP, hB7, X7⟩
                        case measure => simp [intOf] <;> omega
                    · have hjl : cols.length = j := by have := HL2.out; omega
                      have HQ9 := HQ.out
                      rw [← hjl, mixTo_all HLZ2.out] at HQ9
                      have HQN := Lib.hid HQ9
                      have HOT := HOT
                      have HPO := HPO
                      have HX := HX
                      have XA := X
                      clear hjl HQ HQ9 X hj
                      go_wp2_with fail
                      go_roundw
                      case rel => exact ⟨i + 1, rows2, cols2, done9, by omega, by go_num, HL1N, HL2N, HRB1N, HRB2N, HOT, HQN, HPO, HDL9, HX, hB3, XA, HFN⟩
                      case measure => simp [intOf] <;> omega
            · have hin : n = i := by omega
              have hf := HF.out
              rw [hin, Nat.sub_self, playS, List.append_nil] at hf
              have HV := HPO.out.toV (by have := HDL.out; omega)
              have HCP := Lib.hid (own_cap HPO.out.1)
              rw [hf] at HV
              obtain ⟨ao9, c9, rfl, _, hc9⟩ := HV
              have HV : Hid (Prs wr (.slice ao9 FIN.length c9) FIN) := ⟨ao9, c9, rfl, by have := HFL.out; omega, hc9⟩
              clear hc9 hf HF HPO HX HRO HCO HRB1 HRB2
              go_wp2_with fail
              go_ret2
              exact ⟨_, rfl, ⟨HV.out, HCP.out⟩, X⟩
theorem play_go (v : Value) (m : List (List ByteArray)) (n : Nat) (w : World) (hv : Rows Value.string w v m) (hs : ∀ l ∈ m, ∀ s ∈ l, s.size ≤ 9223372036854775806) (he : gameE m = 0) (hn : n ≤ 200) :
    Calls Tryz.prog 11 #[v, .int .i64 n] w fun e w' => ∃ u, e = .returned (.tuple #[u, .int .i64 0]) ∧ Prs w' u (playQ m n) ∧ Ext w w' := by
  refine (play_goC v m n w hv hs he hn).mono ?_
  rintro e w' ⟨u, h1, h2, h3⟩
  exact ⟨u, h1, h2.1, h3⟩
end Go.Proofs.YtjnaecicdaiimaaGreatDoor
/- walks: slices.Equal and ContainsFunc of vectors, slices.Equal of pairs, vast; literals of vectors, matrices and pairs -/
namespace Go.Proofs.YtjnaecicdaiimaaGreatDoor
open Go.RowKit
set_option linter.unusedVariables false

set_option maxHeartbeats 400000 in
set_option maxRecDepth 100000 in
theorem indexFunc_vec (v : Value) (us : List Value) (ps : List Bool) (g : Nat) (caps : Array Value) (w : World) (hv : Row w v us) (hl : ps.length = us.length)
    (eg : ∀ args w, (callFunc g args).run Tryz.prog w = .ok (.enter g args) w)
    (hp : ∀ (i : Nat) (u : Value) (q : Bool) (W : World), us[i]? = some u → ps[i]? = some q → Ext w W → Calls Tryz.prog g (#[u] ++ caps) W fun e W' => e = .returned (.bool q) ∧ Ext W W') :
    Calls Tryz.prog 100 #[v, .func (.func g) #[] caps] w fun e w' => e = .returned (.int .i64 (idxF id ps 0)) ∧ Ext w w' := by
  obtain ⟨ao, c, rfl, _, hlen, _, hc⟩ := hv
  have HP := Lib.hid hp; have HL := Lib.hid hl; have HC := Lib.hid hc
  clear hp hl hc
  go_enter Tryz.func100, Tryz.ntmps100
  go_wp2_with fail
  go_loopw [8] (fun i wr => ∃ k : Nat, k ≤ us.length ∧ i = .int .i64 k ∧ Ext w wr ∧ Hid (idxF id (ps.drop k) k = idxF id ps 0)) (fun i _ => us.length - (intOf i).toNat)
  case atStart => exact ⟨0, Nat.zero_le _, rfl, Ext.refl _, rfl⟩
  case round =>
    obtain ⟨k, hk, rfl, HX, HI⟩ := hrel
    by_cases hlt : k < us.length
    · obtain ⟨x, h1, _, _⟩ := get_lt hlt
      obtain ⟨q, hq1, hq2, _⟩ := get_lt (xs := ps) (k := k) (by rw [HL.out]; exact hlt)
      obtain ⟨b, off, rfl, hc0⟩ := HC.out k x h1.out
      have hcell := HX.cell hc0
      have hcall := HP.out k x q wr h1.out hq1.out HX
      clear hc0
      have HH := Lib.hid hcall; clear hcall
      cases q
      all_goals
        go_wp2_with fail
        refine HH.out.mono ?_
        rintro e w' ⟨rfl, HB⟩
        go_wp2_with fail
      · go_roundw
        case rel => exact ⟨k + 1, by omega, by go_num, HX.trans HB, by rw [← HI.out, hq2.out]; simp [Hid, idxF]⟩
        case measure => simp [intOf]; omega
      · go_ret
        exact ⟨ret_int (by rw [← HI.out, hq2.out]; simp [idxF]), HX.trans HB⟩
    · obtain ⟨h1, _⟩ := get_ge (xs := ps) (k := k) (by rw [HL.out]; exact hlt)
      go_wp2_with fail
      go_ret
      exact ⟨ret_int (by rw [← HI.out, h1.out]; rfl), HX⟩


set_option maxHeartbeats 400000 in
set_option maxRecDepth 100000 in
theorem containsFunc_vec (v : Value) (us : List Value) (ps : List Bool) (g : Nat) (caps : Array Value) (w : World) (hv : Row w v us) (hl : ps.length = us.length)
    (eg : ∀ args w, (callFunc g args).run Tryz.prog w = .ok (.enter g args) w)
    (hp : ∀ (i : Nat) (u : Value) (q : Bool) (W : World), us[i]? = some u → ps[i]? = some q → Ext w W → Calls Tryz.prog g (#[u] ++ caps) W fun e W' => e = .returned (.bool q) ∧ Ext W W')
    (q : Bool) (hq : Hid (ps.any id = q)) :
    Calls Tryz.prog 53 #[v, .func (.func g) #[] caps] w fun e w' => e = .returned (.bool q) ∧ Ext w w' := by
  obtain ⟨i, hi⟩ : ∃ i, Hid (idxF id ps 0 = i) := ⟨_, rfl⟩
  have hge := idxF_ge id ps 0 (Int.le_refl _)
  rw [hi.out, hq.out] at hge
  have HC := indexFunc_vec v us ps g caps w hv hl eg hp
  rw [hi.out] at HC
  have hge2 := Lib.hid hge; clear hge
  have HD := Lib.hid HC; clear HC hp hl
  go_enter Tryz.func53, Tryz.ntmps53
  go_wp2_with fail
  refine HD.out.mono ?_
  rintro e w' ⟨rfl, hx⟩
  go_wp2_with fail
  go_ret
  exact ⟨ret_bool (by have := hge2.out; cases q <;> simp at this <;> simp <;> omega), hx⟩

set_option maxHeartbeats 400000 in
set_option maxRecDepth 100000 in
theorem equal_vec (u v : Value) (xs : List ByteArray) (w : World) (hu : Strs w u xs) (hv : Strs w v xs) :
    Calls Tryz.prog 36 #[u, v] w fun e w' => e = .returned (.bool true) ∧ Ext w w' := by
  obtain ⟨ao, c, rfl, hlen, hc⟩ := hu.open
  obtain ⟨bo, d, rfl, hlen2, hd⟩ := hv.open
  clear hu hv
  have HC := Lib.hid hc
  have HD := Lib.hid hd
  clear hc hd
  go_enter Tryz.func36, Tryz.ntmps36
  go_wp2_with fail
  go_loopw [13] (fun i wr => ∃ k : Nat, k ≤ xs.length ∧ i = .int .i64 k ∧ Ext w wr) (fun i _ => xs.length - (intOf i).toNat)
  case atStart => exact ⟨0, Nat.zero_le _, rfl, Ext.refl _⟩
  case round =>
    obtain ⟨k, hk, rfl, HX⟩ := hrel
    by_cases hlt : k < xs.length
    · obtain ⟨x, h1, h2, h3⟩ := get_lt hlt
      obtain ⟨b, off, rfl, _⟩ := HC.out.at h1
      have hcell := (HC.out.ext HX).at' h1
      obtain ⟨b2, off2, rfl, _⟩ := HD.out.at h1
      have hcell2 := (HD.out.ext HX).at' h1
      have hki : (k : Int) < (xs.length : Int) := by omega
      have hx1 : (x.toList != x.toList) = false := by simp
      have hx2 : (x.toList == x.toList) = true := by simp
      clear hlt
      go_wp2_with fail
      go_quiet (fail)
      go_wp2_with fail
      go_roundw
      case rel => exact ⟨k + 1, by omega, by go_num, HX.drewN _⟩
      case measure => simp [intOf]; omega
    · have hki : (xs.length : Int) ≤ (k : Int) := by omega
      clear hlt
      go_wp2_with fail
      go_ret
      exact ⟨rfl, HX⟩


def vastR (n : Nat) (r : List ByteArray) : Bool := decide (n < r.length) || r.any fun s => decide (12 < s.size)
def vastM (n : Nat) (m : List (List ByteArray)) : Bool := decide (n < m.length) || m.any (vastR n)
def vastB (n : Nat) (ms : List (List (List ByteArray))) : Bool := ms.any (vastM n)
/-- a slice value that reads as matrices -/
def MatsV (w : World) (v : Value) (ms : List (List (List ByteArray))) : Prop := ∃ us, Row w v us ∧ us.length = ms.length ∧ ∀ (i : Nat) u m, us[i]? = some u → ms[i]? = some m → Rows Value.string w u m

set_option maxHeartbeats 1600000 in
set_option maxRecDepth 100000 in
theorem vastClo_any (s : ByteArray) (w : World) (hs : s.size ≤ 9223372036854775806) :
    Calls Tryz.prog 54 #[.string s] w fun e w' => e = .returned (.bool (decide (12 < s.size))) ∧ Ext w w' := by
  have hb : decide ((12 : Int) < (s.size : Int)) = decide (12 < s.size) := by rw [decide_eq_decide]; omega
  rw [← hb]
  clear hb
  go_enter Tryz.func54, Tryz.ntmps54
  go_wp2_with fail
  go_ret
  exact ⟨rfl, Ext.refl _⟩

theorem vastAny (v : Value) (l : List ByteArray) (w : World) (hv : Strs w v l) (hs : ∀ s ∈ l, s.size ≤ 9223372036854775806) (p : Bool) (hp : (l.any fun s => decide (12 < s.size)) = p) :
    Calls Tryz.prog 53 #[v, .func (.func 54) #[] #[]] w fun e w' => e = .returned (.bool p) ∧ Ext w w' :=
  containsFunc_vec v (l.map Value.string) (l.map fun s => decide (12 < s.size)) 54 #[] w hv (by rw [List.length_map, List.length_map]) (fun _ _ => by kernel_rfl)
    (fun i u' q' W2 g1 g2 hW2 => by
      simp only [List.getElem?_map, Option.map_eq_some_iff] at g1 g2
      obtain ⟨y, hy, rfl⟩ := g1
      obtain ⟨z, hz, rfl⟩ := g2
      rw [hy] at hz
      cases hz
      exact vastClo_any y W2 (hs y (List.mem_of_getElem? hy)))
    p (by show _ = _; rw [List.any_map, ← hp]; rfl)

set_option maxHeartbeats 3200000 in
set_option maxRecDepth 100000 in
theorem vast_any (v : Value) (n : Nat) (ms : List (List (List ByteArray))) (w : World) (hv : MatsV w v ms) (hn : n ≤ 1000) (hs : ∀ m ∈ ms, ∀ r ∈ m, ∀ s ∈ r, s.size ≤ 9223372036854775806) (q : Bool) (hq : vastB n ms = q) :
    Calls Tryz.prog 13 #[.int .i64 n, v] w fun e w' => e = .returned (.bool q) ∧ Ext w w' := by
  obtain ⟨us, hr, hul, hel⟩ := hv
  obtain ⟨ao, c, rfl, _, hlen, _, hc⟩ := hr
  have HC := Lib.hid hc
  have HEL := Lib.hid hel
  have HUL := Lib.hid hul
  have HS := Lib.hid hs
  have HQ := Lib.hid hq
  obtain ⟨wo, rfl⟩ : ∃ wo : World, wo = w := ⟨_, rfl⟩
  clear hc hel hul hs hq
  go_enter Tryz.func13, Tryz.ntmps13
  go_wp2_with fail
  go_loopw [11] (fun iv wr => ∃ (i : Nat), i ≤ us.length ∧ iv = .int .i64 i ∧ Ext wo wr ∧ Hid (vastB n (ms.drop i) = q)) (fun iv _ => us.length - (intOf iv).toNat)
  case atStart => exact ⟨0, Nat.zero_le _, rfl, Ext.refl _, by show _ = _; rw [List.drop_zero]; exact HQ.out⟩
  case round =>
    obtain ⟨i, hi, rfl, X, HI⟩ := hrel
    by_cases hlt : i < us.length
    · obtain ⟨u, d1, _, _⟩ := get_lt hlt
      obtain ⟨m, q1, q2, _⟩ := get_lt (xs := ms) (k := i) (by rw [← HUL.out]; exact hlt)
      obtain ⟨b, off, rfl, hc0⟩ := HC.out.ext X i u d1.out
      have hcell : wr.cell? ⟨b, off + i, none⟩ = some u := hc0
      have HRS := Lib.hid (HEL.out i u m d1.out q1.out)
      have HSM := Lib.hid (HS.out m (List.mem_of_getElem? q1.out))
      obtain ⟨us2, hr2, hul2, hel2⟩ := HRS.out
      obtain ⟨ao2, c2, rfl, _, hlen2, _, hcc2⟩ := hr2
      have HC2 := Lib.hid hcc2
      have HEL2 := Lib.hid hel2
      have HUL2 := Lib.hid hul2
      have hki : (i : Int) < (us.length : Int) := by omega
      have hi2 := HI.out
      rw [q2.out] at hi2
      have hv2 : (vastM n m || vastB n (ms.drop (i + 1))) = q := hi2
      clear hc0 hcc2 hel2 hul2 hi2 HRS
      by_cases hbig : n < us2.length
      · have hvm : vastM n m = true := by unfold vastM; rw [decide_eq_true (by rw [← HUL2.out]; exact hbig)]; rfl
        rw [hvm, Bool.true_or] at hv2
        subst hv2
        have hbi : (n : Int) < (us2.length : Int) := by omega
        clear hvm
        go_wp2_with fail
        go_ret
        exact ⟨rfl, X⟩
      have hbi : (us2.length : Int) ≤ (n : Int) := by omega
      have hvm : vastM n m = m.any (vastR n) := by unfold vastM; rw [decide_eq_false (by rw [← HUL2.out]; exact hbig)]; rfl
      rw [hvm] at hv2
      have HV2 := Lib.hid hv2
      obtain ⟨w1, rfl⟩ : ∃ w1 : World, w1 = wr := ⟨_, rfl⟩
      clear hvm hv2 HI
      go_wp2_with fail
      go_loopw [21] (fun jv wr => ∃ (j : Nat), j ≤ us2.length ∧ jv = .int .i64 j ∧ Ext wo wr ∧ Hid (((m.drop j).any (vastR n) || vastB n (ms.drop (i + 1))) = q)) (fun jv _ => us2.length - (intOf jv).toNat)
      case atStart => exact ⟨0, Nat.zero_le _, rfl, X, by show _ = _; rw [List.drop_zero]; exact HV2.out⟩
      case round =>
        clear HV2 X hcell
        obtain ⟨j, hj, rfl, X, HI⟩ := hrel
        by_cases hlt2 : j < us2.length
        · obtain ⟨x, d3, _, _⟩ := get_lt hlt2
          obtain ⟨r, q3, q4, _⟩ := get_lt (xs := m) (k := j) (by rw [← HUL2.out]; exact hlt2)
          obtain ⟨b2, off2, rfl, hc0⟩ := HC2.out.ext X j x d3.out
          have hcell : wr.cell? ⟨b2, off2 + j, none⟩ = some x := hc0
          have HRR := HEL2.out j x r d3.out q3.out
          have HVA := Lib.hid (fun W (hx : Ext wo W) p hp => vastAny x r W (HRR.ext hx) (HSM.out r (List.mem_of_getElem? q3.out)) p hp)
          obtain ⟨ao3, c3, rfl, _, _⟩ := HRR.open
          have hkj : (j : Int) < (us2.length : Int) := by omega
          have hi2 := HI.out
          rw [q4.out] at hi2
          have hv2 : ((vastR n r || (m.drop (j + 1)).any (vastR n)) || vastB n (ms.drop (i + 1))) = q := hi2
          clear hc0 hi2 HRR HI
          by_cases hbg : n < r.length
          · have hvr : vastR n r = true := by unfold vastR; rw [decide_eq_true hbg]; rfl
            rw [hvr, Bool.true_or, Bool.true_or] at hv2
            subst hv2
            have hbi2 : (n : Int) < (r.length : Int) := by omega
            clear hvr HVA
            go_wp2_with fail
            go_ret
            exact ⟨by first | rfl | simp, X⟩
          have hbi2 : (r.length : Int) ≤ (n : Int) := by omega
          have hvr : vastR n r = r.any fun s => decide (12 < s.size) := by unfold vastR; rw [decide_eq_false hbg]; rfl
          rw [hvr] at hv2
          obtain ⟨p, hp⟩ : ∃ p, (r.any fun s => decide (12 < s.size)) = p := ⟨_, rfl⟩
          have HVA := Lib.hid (fun W (hx : Ext wo W) => HVA.out W hx p hp)
          rw [hp] at hv2
          clear hvr hp
          cases p with
          | true =>
            rw [Bool.true_or, Bool.true_or] at hv2
            subst hv2
            go_wp2_with fail
            refine (HVA.out _ X).mono ?_
            rintro e w4 ⟨rfl, X4⟩
            go_wp2_with fail
            go_ret
            exact ⟨by first | rfl | simp, X.trans X4⟩
          | false =>
            rw [Bool.false_or] at hv2
            have HV3 := Lib.hid hv2
            clear hv2
            go_wp2_with fail
            refine (HVA.out _ X).mono ?_
            rintro e w4 ⟨rfl, X4⟩
            go_wp2_with fail
            go_roundw
            case rel => exact ⟨j + 1, by omega, by go_num, X.trans X4, HV3⟩
            case measure => simp [intOf] <;> omega
        · have hjl : m.length = j := by have := HUL2.out; omega
          have hi2 := HI.out
          rw [← hjl, List.drop_length] at hi2
          have HI3 : Hid (vastB n (ms.drop (i + 1)) = q) := hi2
          clear hjl hi2 HI
          go_wp2_with fail
          go_roundw
          case rel => exact ⟨i + 1, by omega, by go_num, X, HI3⟩
          case measure => simp [intOf] <;> omega
    · have hil : ms.length = i := by have := HUL.out; omega
      have hi2 := HI.out
      rw [← hil, List.drop_length] at hi2
      have hqf : q = false := hi2.symm
      subst hqf
      clear hil hi2 HI
      go_wp2_with fail
      go_ret
      exact ⟨rfl, X⟩

@[go_sem] theorem eq_pair (a b c d : Int) (w : World) : (Op.equalIn 10000 32 (.agg #[.int .i64 a, .int .i64 b]) (.agg #[.int .i64 c, .int .i64 d])).run Tryz.prog w = .ok (a == c && b == d) w := by
  have u3 := Tryz.underlying3
  have a3 := Tryz.isAgg3
  have z3 := Tryz.sizeOf3
  rw [show (10000 : Nat) = 9999 + 1 from rfl, Op.equalIn]
  simp only [Sem.run_bind, run_underlying Tryz.underlying32, Result.andThen_ok]
  simp only [Std.Legacy.Range.forIn_eq_forIn_range', Std.Legacy.Range.size, Nat.sub_zero, Nat.add_sub_cancel, Nat.div_one, List.range'_succ, List.range'_zero, List.forIn_cons, List.forIn_nil]
  go_simp
  by_cases h1 : a = c <;> by_cases h2 : b = d <;> simp [h1, h2]

set_option maxHeartbeats 1600000 in
set_option maxRecDepth 100000 in
theorem equal_prs (u v : Value) (ps : List (Int × Int)) (w : World) (hu : Prs w u ps) (hv : Prs w v ps) :
    Calls Tryz.prog 46 #[u, v] w fun e w' => e = .returned (.bool true) ∧ Ext w w' := by
  obtain ⟨ao, c, rfl, hl1, hc⟩ := hu
  obtain ⟨bo, d, rfl, hl2, hd⟩ := hv
  have HC := Lib.hid hc
  have HD := Lib.hid hd
  clear hc hd
  go_enter Tryz.func46, Tryz.ntmps46
  go_wp2_with fail
  go_loopw [13] (fun i wr => ∃ k : Nat, k ≤ ps.length ∧ i = .int .i64 k ∧ Ext w wr) (fun i _ => ps.length - (intOf i).toNat)
  case atStart => exact ⟨0, Nat.zero_le _, rfl, Ext.refl _⟩
  case round =>
    obtain ⟨k, hk, rfl, HX⟩ := hrel
    by_cases hlt : k < ps.length
    · obtain ⟨x, h1, _, _⟩ := get_lt hlt
      obtain ⟨b, off, rfl, x0, x1⟩ := HC.out.ext HX k x h1.out
      obtain ⟨b2, off2, rfl, y0, y1⟩ := HD.out.ext HX k x h1.out
      have hki : (k : Int) < (ps.length : Int) := by omega
      obtain ⟨xa, xb⟩ := x
      dsimp only at x0 x1 y0 y1
      clear hlt
      go_wp2_with fail
      go_region
      all_goals
        go_wp2_with fail
        go_roundw
        case rel => exact ⟨k + 1, by omega, by go_num, HX.drew⟩
        case measure => simp [intOf] <;> omega
    · have hki : (ps.length : Int) ≤ (k : Int) := by omega
      clear hlt
      go_wp2_with fail
      go_ret
      exact ⟨rfl, HX⟩

/-- a literal of pairs reads -/
theorem lit_prs (w : World) (e : TypeId) (ps : List (Int × Int)) (hl : ps.length ≤ 1000) (k : Nat) (hk : k = w.heap.size) : Prs (w.alloc (.cells (flatP ps).toArray e)) (.slice (some ⟨k, 0, none⟩) ps.length ps.length) ps := by
  subst hk
  refine ⟨_, _, rfl, by omega, fun i p hp => ?_⟩
  obtain ⟨g0, g1⟩ := flatP_get ps i p hp
  have hb : ∀ j u, (flatP ps)[j]? = some u → (w.alloc (.cells (flatP ps).toArray e)).cell? ⟨w.heap.size, j, none⟩ = some u := by
    intro j u hj
    rw [World.cell?_alloc_new]
    simpa using hj
  exact ⟨_, 0, rfl, by rw [Nat.zero_add]; exact hb _ _ g0, by rw [Nat.zero_add]; exact hb _ _ g1⟩
/-- a literal of one matrix -/
theorem lit_mats1 (w : World) (e : TypeId) {u : Value} {m : List (List ByteArray)} (h : Rows Value.string w u m) (k : Nat) (hk : k = w.heap.size) : MatsV (w.alloc (.cells #[u] e)) (.slice (some ⟨k, 0, none⟩) 1 1) [m] := by
  subst hk
  refine ⟨[u], ⟨_, _, rfl, ⟨fun e => (by cases e), Nat.le_refl _⟩, by simp, fun _ e => (by cases e), fun i x hx => ?_⟩, rfl, fun i x xs a b => ?_⟩
  · match i, hx with
    | 0, hx =>
      simp only [List.getElem?_cons_zero, Option.some.injEq] at hx
      subst hx
      exact ⟨_, _, rfl, by simp [go_sem]⟩
    | i + 1, hx => simp at hx
  · match i, a, b with
    | 0, a, b =>
      simp only [List.getElem?_cons_zero, Option.some.injEq] at a b
      subst a
      subst b
      exact h.ext ((Ext.refl w).alloc _)
    | i + 1, a, b => simp at a
/-- a literal of two rows -/
theorem lit_rows2 (w : World) (e : TypeId) {u v : Value} {r s : List ByteArray} (h1 : Strs w u r) (h2 : Strs w v s) (k : Nat) (hk : k = w.heap.size) : Rows Value.string (w.alloc (.cells #[u, v] e)) (.slice (some ⟨k, 0, none⟩) 2 2) [r, s] := by
  refine rows_lit (enc := Value.string) [u, v] [r, s] k hk (by simp) rfl fun i x xs a b => ?_
  match i, a, b with
  | 0, a, b =>
    simp only [List.getElem?_cons_zero, Option.some.injEq] at a b
    subst a
    subst b
    exact h1
  | 1, a, b =>
    simp only [List.getElem?_cons_succ, List.getElem?_cons_zero, Option.some.injEq] at a b
    subst a
    subst b
    exact h2
  | i + 2, a, b => simp at a
theorem outsG_all {k : Nat} : ∀ {qs : List Rat}, (∀ q ∈ qs, RB k q) → k ≤ 1999 → outsG qs = some (qs.map ratT)
  | [], _, _ => rfl
  | q :: t, h, hk => by
    rw [outsG, if_pos (fits_RB (h q (List.mem_cons_self ..)) hk), outsG_all (fun x hx => h x (List.mem_cons_of_mem _ hx)) hk]
    rfl
end Go.Proofs.YtjnaecicdaiimaaGreatDoor
/- walk: regretFact -/
namespace Go.Proofs.YtjnaecicdaiimaaGreatDoor
open Go.RowKit
set_option linter.unusedVariables false

def penM : List (List ByteArray) := ([([(⟨#[49]⟩ : ByteArray), (⟨#[45, 49]⟩ : ByteArray)] : List ByteArray), ([(⟨#[45, 49]⟩ : ByteArray), (⟨#[49]⟩ : ByteArray)] : List ByteArray)] : List (List ByteArray))
def oneM : List (List ByteArray) := ([([(⟨#[49]⟩ : ByteArray), (⟨#[48]⟩ : ByteArray)] : List ByteArray), ([(⟨#[51]⟩ : ByteArray), (⟨#[48]⟩ : ByteArray)] : List ByteArray)] : List (List ByteArray))
def psL : List (Int × Int) := ([((0 : Int), (0 : Int)), ((0 : Int), (1 : Int))] : List (Int × Int))
theorem small_rows {m : List (List ByteArray)} (h : (m.all fun l => l.all fun s => decide (s.size ≤ 100)) = true) : ∀ l ∈ m, ∀ s ∈ l, s.size ≤ 9223372036854775806 := fun l hl s hs => by
  have := List.all_eq_true.1 (List.all_eq_true.1 h l hl) s hs
  simp only [decide_eq_true_eq] at this
  omega
theorem small_row {l : List ByteArray} (h : (l.all fun s => decide (s.size ≤ 100)) = true) : ∀ s ∈ l, s.size ≤ 9223372036854775806 := fun s hs => by
  have := List.all_eq_true.1 h s hs
  simp only [decide_eq_true_eq] at this
  omega

theorem rg1 (v u : Value) (w : World) (htab : TabPow w) (hv : Rows Value.string w v oneM) (hu : Prs w u psL) : Calls Tryz.prog 42 #[v, u] w fun e w' => ∃ a b, e = .returned (.tuple #[a, b, .int .i64 0]) ∧ Strs w' a ([(⟨#[48]⟩ : ByteArray), (⟨#[50]⟩ : ByteArray)] : List ByteArray) ∧ Strs w' b ([(⟨#[45, 49]⟩ : ByteArray), (⟨#[49]⟩ : ByteArray)] : List ByteArray) ∧ Ext w w' := by
  refine (regrets_go v u oneM psL w htab hv hu (small_rows (by decide)) (by decide +kernel)).mono ?_
  rintro e w' ⟨X, h⟩
  rcases h with ⟨os, ps, u1, u2, h1, h2, rfl, s1, s2⟩ | ⟨hn, _⟩
  · rw [show outsG (regRows oneM psL) = some ([(⟨#[48]⟩ : ByteArray), (⟨#[50]⟩ : ByteArray)] : List ByteArray) by decide +kernel] at h1
    rw [show outsG (regCols oneM psL) = some ([(⟨#[45, 49]⟩ : ByteArray), (⟨#[49]⟩ : ByteArray)] : List ByteArray) by decide +kernel] at h2
    cases h1
    cases h2
    exact ⟨_, _, rfl, s1, s2, X⟩
  · rcases hn with hn | hn
    · rw [show outsG (regRows oneM psL) = some ([(⟨#[48]⟩ : ByteArray), (⟨#[50]⟩ : ByteArray)] : List ByteArray) by decide +kernel] at hn; cases hn
    · rw [show outsG (regCols oneM psL) = some ([(⟨#[45, 49]⟩ : ByteArray), (⟨#[49]⟩ : ByteArray)] : List ByteArray) by decide +kernel] at hn; cases hn

theorem rg2 (v : Value) (w : World) (htab : TabPow w) (hv : Strs w v ([(⟨#[51]⟩ : ByteArray), (⟨#[45, 49]⟩ : ByteArray), (⟨#[49]⟩ : ByteArray)] : List ByteArray)) : Calls Tryz.prog 43 #[v] w fun e w' => ∃ a, e = .returned (.tuple #[a, .int .i64 0]) ∧ Strs w' a ([(⟨#[51, 47, 52]⟩ : ByteArray), (⟨#[48]⟩ : ByteArray), (⟨#[49, 47, 52]⟩ : ByteArray)] : List ByteArray) ∧ Ext w w' := by
  refine (match_go v _ w htab hv (small_row (by decide)) (by decide +kernel)).mono ?_
  rintro e w' ⟨X, h⟩
  rcases h with ⟨hn, _⟩ | ⟨os, u1, h1, rfl, s1⟩
  · rw [show outsG (matchQ ([(⟨#[51]⟩ : ByteArray), (⟨#[45, 49]⟩ : ByteArray), (⟨#[49]⟩ : ByteArray)] : List ByteArray)) = some ([(⟨#[51, 47, 52]⟩ : ByteArray), (⟨#[48]⟩ : ByteArray), (⟨#[49, 47, 52]⟩ : ByteArray)] : List ByteArray) by decide +kernel] at hn; cases hn
  · rw [show outsG (matchQ ([(⟨#[51]⟩ : ByteArray), (⟨#[45, 49]⟩ : ByteArray), (⟨#[49]⟩ : ByteArray)] : List ByteArray)) = some ([(⟨#[51, 47, 52]⟩ : ByteArray), (⟨#[48]⟩ : ByteArray), (⟨#[49, 47, 52]⟩ : ByteArray)] : List ByteArray) by decide +kernel] at h1
    cases h1
    exact ⟨_, rfl, s1, X⟩

theorem rg3 (v u : Value) (w : World) (htab : TabPow w) (hv : Rows Value.string w v penM) (hu : Prs w u psL) : Calls Tryz.prog 18 #[v, u] w fun e w' => ∃ a b, e = .returned (.tuple #[a, b, .int .i64 0]) ∧ Strs w' a ([(⟨#[49]⟩ : ByteArray), (⟨#[48]⟩ : ByteArray)] : List ByteArray) ∧ Strs w' b ([(⟨#[49, 47, 50]⟩ : ByteArray), (⟨#[49, 47, 50]⟩ : ByteArray)] : List ByteArray) ∧ Ext w w' := by
  refine (average_go v u penM psL w htab hv hu (small_rows (by decide)) (by decide +kernel)).mono ?_
  rintro e w' ⟨X, h⟩
  rcases h with ⟨os, ps, u1, u2, h1, h2, rfl, s1, s2⟩ | ⟨hn, _⟩
  · rw [show outsG (avgRows penM psL) = some ([(⟨#[49]⟩ : ByteArray), (⟨#[48]⟩ : ByteArray)] : List ByteArray) by decide +kernel] at h1
    rw [show outsG (avgCols penM psL) = some ([(⟨#[49, 47, 50]⟩ : ByteArray), (⟨#[49, 47, 50]⟩ : ByteArray)] : List ByteArray) by decide +kernel] at h2
    cases h1
    cases h2
    exact ⟨_, _, rfl, s1, s2, X⟩
  · rcases hn with hn | hn
    · rw [show outsG (avgRows penM psL) = some ([(⟨#[49]⟩ : ByteArray), (⟨#[48]⟩ : ByteArray)] : List ByteArray) by decide +kernel] at hn; cases hn
    · rw [show outsG (avgCols penM psL) = some ([(⟨#[49, 47, 50]⟩ : ByteArray), (⟨#[49, 47, 50]⟩ : ByteArray)] : List ByteArray) by decide +kernel] at hn; cases hn

theorem rg4 (v : Value) (w : World) (hv : Rows Value.string w v penM) : Calls Tryz.prog 11 #[v, .int .i64 2] w fun e w' => ∃ a, e = .returned (.tuple #[a, .int .i64 0]) ∧ Prs w' a psL ∧ Ext w w' := by
  have h := play_go v penM 2 w hv (small_rows (by decide)) (by decide +kernel) (by omega)
  rw [show playQ penM 2 = psL by decide +kernel] at h
  exact h

theorem rg5 (v u : Value) (w : World) (htab : TabPow w) (hv : Rows Value.string w v penM) (hu : Prs w u psL) : Calls Tryz.prog 19 #[v, u] w fun e w' => ∃ A D, e = .returned (.tuple #[.string A, .string D, .int .i64 0]) ∧ A.toList = [45, 49] ∧ D.toList = [48] ∧ Ext w w' := by
  refine (bounds_go v u penM psL w htab hv hu (small_rows (by decide)) (by decide +kernel)).mono ?_
  rintro e w' ⟨X, h⟩
  rcases h with ⟨_, _, rfl⟩ | ⟨hn, _⟩
  · exact ⟨_, _, rfl, by decide +kernel, by decide +kernel, X⟩
  · rcases hn with hn | hn
    · rw [show fitsB (lowQ penM psL / ((psL.length : Int) : Rat)) = true by decide +kernel] at hn; cases hn
    · rw [show fitsB (highQ penM psL / ((psL.length : Int) : Rat)) = true by decide +kernel] at hn; cases hn

theorem rg6 (v u : Value) (w : World) (hv : Rows Value.string w v penM) (hu : Prs w u ([((2 : Int), (0 : Int))] : List (Int × Int))) : Calls Tryz.prog 47 #[v, u] w fun e w' => e = .returned (.int .i64 4) ∧ Ext w w' := by
  have h := rgCheck_any v u penM _ w hv hu (small_rows (by decide)) _ rfl
  rw [show histE penM ([((2 : Int), (0 : Int))] : List (Int × Int)) = 4 by decide +kernel] at h
  exact h

set_option maxHeartbeats 1600000 in
set_option maxRecDepth 100000 in
theorem pennies_any (w : World) : Calls Tryz.prog 44 #[] w fun e w' => ∃ v, e = .returned v ∧ Rows Value.string w' v penM ∧ Ext w w' := by
  go_enter Tryz.func44, Tryz.ntmps44
  go_wp2_with fail
  go_ret
  refine ⟨_, rfl, ?_, (((Ext.refl w).alloc _).alloc _).alloc _⟩
  exact lit_rows2 _ _ ((lit_strs_at w _ ([(⟨#[49]⟩ : ByteArray), (⟨#[45, 49]⟩ : ByteArray)] : List ByteArray) (by simp) _ rfl).ext ((Ext.refl _).alloc _)) (lit_strs_at _ _ ([(⟨#[45, 49]⟩ : ByteArray), (⟨#[49]⟩ : ByteArray)] : List ByteArray) (by simp) _ (by simp)) _ (by simp)

set_option maxHeartbeats 16000000 in
set_option maxRecDepth 100000 in
theorem regretFact_any (w : World) (htab : TabPow w) : Calls Tryz.prog 9 #[] w fun e w' => e = .returned (.bool true) ∧ Ext w w' := by
  have K1 := Lib.hid (fun v u W (hx : Ext w W) hv hu => rg1 v u W (tabPow_ext htab hx) hv hu)
  have K2 := Lib.hid (fun v W (hx : Ext w W) hv => rg2 v W (tabPow_ext htab hx) hv)
  have K3 := Lib.hid (fun v u W (hx : Ext w W) hv hu => rg3 v u W (tabPow_ext htab hx) hv hu)
  have K4 := Lib.hid rg4
  have K5 := Lib.hid (fun v u W (hx : Ext w W) hv hu => rg5 v u W (tabPow_ext htab hx) hv hu)
  have K6 := Lib.hid rg6
  have KP := Lib.hid pennies_any
  clear htab
  have E0 := Ext.refl w
  have HP0 : Prs (w.alloc (.cells #[.int .i64 0, .int .i64 0, .int .i64 0, .int .i64 1] 32)) (.slice (some ⟨w.heap.size, 0, none⟩) 2 2) psL := lit_prs w _ psL (by decide) _ rfl
  have HPS := Lib.hid HP0
  clear HP0
  go_enter Tryz.func9, Tryz.ntmps9
  go_wp2_with fail
  refine (K1.out _ _ _ (by repeat' (first | with_reducible exact E0 | with_reducible apply Ext.alloc)) (by exact lit_rows2 _ _ ((lit_strs_at _ _ ([(⟨#[49]⟩ : ByteArray), (⟨#[48]⟩ : ByteArray)] : List ByteArray) (by simp) _ (by simp)).ext ((Ext.refl _).alloc _)) (lit_strs_at _ _ ([(⟨#[51]⟩ : ByteArray), (⟨#[48]⟩ : ByteArray)] : List ByteArray) (by simp) _ (by simp)) _ (by simp)) (by exact HPS.out.ext (by repeat' (first | with_reducible exact Ext.refl _ | with_reducible apply Ext.alloc)))).mono ?_
  rintro e w1 ⟨va, vb, rfl, ha, hb, Y1⟩
  have Z1 : Ext (w.alloc (.cells #[.int .i64 0, .int .i64 0, .int .i64 0, .int .i64 1] 32)) w1 := Ext.trans (by repeat' (first | with_reducible exact Ext.refl _ | with_reducible apply Ext.alloc)) Y1
  have X1 : Ext w w1 := Ext.trans (by repeat' (first | with_reducible exact Ext.refl _ | with_reducible apply Ext.alloc)) Y1
  clear Y1
  have E1 := E0.trans X1
  have HPS := Lib.hid (HPS.out.ext Z1)
  clear E0 X1
  obtain ⟨aoa, ca, rfl, _, _⟩ := ha.open
  have Ha := Lib.hid ha
  clear ha
  obtain ⟨aob, cb, rfl, _, _⟩ := hb.open
  have Hb := Lib.hid hb
  clear hb
  go_wp2_with fail
  refine (K2.out _ _ (by repeat' (first | with_reducible exact E1 | with_reducible apply Ext.alloc)) (by exact lit_strs_at _ _ ([(⟨#[51]⟩ : ByteArray), (⟨#[45, 49]⟩ : ByteArray), (⟨#[49]⟩ : ByteArray)] : List ByteArray) (by simp) _ (by first | rfl | simp))).mono ?_
  rintro e w2 ⟨vc, rfl, hc, Y2⟩
  have X2 : Ext w1 w2 := Ext.trans (by repeat' (first | with_reducible exact Ext.refl _ | with_reducible apply Ext.alloc)) Y2
  clear Y2
  have E2 := E1.trans X2
  have HPS := Lib.hid (HPS.out.ext X2)
  have Ha := Lib.hid (Ha.out.ext X2)
  have Hb := Lib.hid (Hb.out.ext X2)
  clear E1 X2
  obtain ⟨aoc, cc, rfl, _, _⟩ := hc.open
  have Hc := Lib.hid hc
  clear hc
  go_wp2_with fail
  refine (KP.out _).mono ?_
  rintro e w3 ⟨vp, rfl, hp, Y3⟩
  have X3 : Ext w2 w3 := Ext.trans (by repeat' (first | with_reducible exact Ext.refl _ | with_reducible apply Ext.alloc)) Y3
  clear Y3
  have E3 := E2.trans X3
  have HPS := Lib.hid (HPS.out.ext X3)
  have Ha := Lib.hid (Ha.out.ext X3)
  have Hb := Lib.hid (Hb.out.ext X3)
  have Hc := Lib.hid (Hc.out.ext X3)
  clear E2 X3
  have HP := Lib.hid hp
  obtain ⟨usp, hrp, hulp, hep⟩ := hp
  obtain ⟨aop, cp, rfl, hx1⟩ := hrp
  clear hulp hep hx1
  go_wp2_with fail
  refine (K3.out _ _ _ (by repeat' (first | with_reducible exact E3 | with_reducible apply Ext.alloc)) HP.out HPS.out).mono ?_
  rintro e w4 ⟨vd, vf, rfl, hd, hf, Y4⟩
  have X4 : Ext w3 w4 := Ext.trans (by repeat' (first | with_reducible exact Ext.refl _ | with_reducible apply Ext.alloc)) Y4
  clear Y4
  have E4 := E3.trans X4
  have HPS := Lib.hid (HPS.out.ext X4)
  have Ha := Lib.hid (Ha.out.ext X4)
  have Hb := Lib.hid (Hb.out.ext X4)
  have Hc := Lib.hid (Hc.out.ext X4)
  clear E3 X4
  obtain ⟨aod, cd, rfl, _, _⟩ := hd.open
  have Hd := Lib.hid hd
  clear hd
  obtain ⟨aof, cf, rfl, _, _⟩ := hf.open
  have Hf := Lib.hid hf
  clear hf
  go_wp2_with fail
  refine (KP.out _).mono ?_
  rintro e w5 ⟨vp, rfl, hp, Y5⟩
  have X5 : Ext w4 w5 := Ext.trans (by repeat' (first | with_reducible exact Ext.refl _ | with_reducible apply Ext.alloc)) Y5
  clear Y5
  have E5 := E4.trans X5
  have HPS := Lib.hid (HPS.out.ext X5)
  have Ha := Lib.hid (Ha.out.ext X5)
  have Hb := Lib.hid (Hb.out.ext X5)
  have Hc := Lib.hid (Hc.out.ext X5)
  have Hd := Lib.hid (Hd.out.ext X5)
  have Hf := Lib.hid (Hf.out.ext X5)
  clear E4 X5
  have HP := Lib.hid hp
  obtain ⟨usp, hrp, hulp, hep⟩ := hp
  obtain ⟨aop, cp, rfl, hx1⟩ := hrp
  clear hulp hep hx1
  go_wp2_with fail
  refine (K4.out _ _ HP.out).mono ?_
  rintro e w6 ⟨vg, rfl, hg, Y6⟩
  have X6 := Y6
  have E6 := E5.trans X6
  have HPS := Lib.hid (HPS.out.ext X6)
  have Ha := Lib.hid (Ha.out.ext X6)
  have Hb := Lib.hid (Hb.out.ext X6)
  have Hc := Lib.hid (Hc.out.ext X6)
  have Hd := Lib.hid (Hd.out.ext X6)
  have Hf := Lib.hid (Hf.out.ext X6)
  clear E5 X6 Y6
  have Hg := Lib.hid hg
  obtain ⟨aog, cg, rfl, hx2⟩ := hg
  clear hx2
  go_wp2_with fail
  refine (KP.out _).mono ?_
  rintro e w7 ⟨vp, rfl, hp, Y7⟩
  have X7 : Ext w6 w7 := Ext.trans (by repeat' (first | with_reducible exact Ext.refl _ | with_reducible apply Ext.alloc)) Y7
  clear Y7
  have E7 := E6.trans X7
  have HPS := Lib.hid (HPS.out.ext X7)
  have Ha := Lib.hid (Ha.out.ext X7)
  have Hb := Lib.hid (Hb.out.ext X7)
  have Hc := Lib.hid (Hc.out.ext X7)
  have Hd := Lib.hid (Hd.out.ext X7)
  have Hf := Lib.hid (Hf.out.ext X7)
  have Hg := Lib.hid (Hg.out.ext X7)
  clear E6 X7
  have HP := Lib.hid hp
  obtain ⟨usp, hrp, hulp, hep⟩ := hp
  obtain ⟨aop, cp, rfl, hx1⟩ := hrp
  clear hulp hep hx1
  go_wp2_with fail
  refine (K5.out _ _ _ (by repeat' (first | with_reducible exact E7 | with_reducible apply Ext.alloc)) HP.out HPS.out).mono ?_
  rintro e w8 ⟨A8, D8, rfl, a8, d8, Y8⟩
  have X8 : Ext w7 w8 := Ext.trans (by repeat' (first | with_reducible exact Ext.refl _ | with_reducible apply Ext.alloc)) Y8
  clear Y8
  have E8 := E7.trans X8
  have HPS := Lib.hid (HPS.out.ext X8)
  have Ha := Lib.hid (Ha.out.ext X8)
  have Hb := Lib.hid (Hb.out.ext X8)
  have Hc := Lib.hid (Hc.out.ext X8)
  have Hd := Lib.hid (Hd.out.ext X8)
  have Hf := Lib.hid (Hf.out.ext X8)
  have Hg := Lib.hid (Hg.out.ext X8)
  clear E7 X8
  go_wp2_with fail
  refine (fine_any _ [0, 0, 0, 0, 0] _ (by exact lit_ints_at _ _ ([0, 0, 0, 0, 0] : List Int) (by decide) _ (by first | rfl | simp)) true rfl).mono ?_
  rintro e w9 ⟨rfl, Y9⟩
  have X9 : Ext w8 w9 := Ext.trans (by repeat' (first | with_reducible exact Ext.refl _ | with_reducible apply Ext.alloc)) Y9
  clear Y9
  have E9 := E8.trans X9
  have HPS := Lib.hid (HPS.out.ext X9)
  have Ha := Lib.hid (Ha.out.ext X9)
  have Hb := Lib.hid (Hb.out.ext X9)
  have Hc := Lib.hid (Hc.out.ext X9)
  have Hd := Lib.hid (Hd.out.ext X9)
  have Hf := Lib.hid (Hf.out.ext X9)
  have Hg := Lib.hid (Hg.out.ext X9)
  clear E8 X9
  go_wp2_with fail
  refine (equal_vec _ _ ([(⟨#[48]⟩ : ByteArray), (⟨#[50]⟩ : ByteArray)] : List ByteArray) _ (by exact Ha.out.ext (by repeat' (first | with_reducible exact Ext.refl _ | with_reducible apply Ext.alloc))) (by exact lit_strs_at _ _ ([(⟨#[48]⟩ : ByteArray), (⟨#[50]⟩ : ByteArray)] : List ByteArray) (by simp) _ (by first | rfl | simp))).mono ?_
  rintro e w10 ⟨rfl, Y10⟩
  have X10 : Ext w9 w10 := Ext.trans (by repeat' (first | with_reducible exact Ext.refl _ | with_reducible apply Ext.alloc)) Y10
  clear Y10
  have E10 := E9.trans X10
  have HPS := Lib.hid (HPS.out.ext X10)
  have Ha := Lib.hid (Ha.out.ext X10)
  have Hb := Lib.hid (Hb.out.ext X10)
  have Hc := Lib.hid (Hc.out.ext X10)
  have Hd := Lib.hid (Hd.out.ext X10)
  have Hf := Lib.hid (Hf.out.ext X10)
  have Hg := Lib.hid (Hg.out.ext X10)
  clear E9 X10
  go_wp2_with fail
  refine (equal_vec _ _ ([(⟨#[45, 49]⟩ : ByteArray), (⟨#[49]⟩ : ByteArray)] : List ByteArray) _ (by exact Hb.out.ext (by repeat' (first | with_reducible exact Ext.refl _ | with_reducible apply Ext.alloc))) (by exact lit_strs_at _ _ ([(⟨#[45, 49]⟩ : ByteArray), (⟨#[49]⟩ : ByteArray)] : List ByteArray) (by simp) _ (by first | rfl | simp))).mono ?_
  rintro e w11 ⟨rfl, Y11⟩
  have X11 : Ext w10 w11 := Ext.trans (by repeat' (first | with_reducible exact Ext.refl _ | with_reducible apply Ext.alloc)) Y11
  clear Y11
  have E11 := E10.trans X11
  have HPS := Lib.hid (HPS.out.ext X11)
  have Ha := Lib.hid (Ha.out.ext X11)
  have Hb := Lib.hid (Hb.out.ext X11)
  have Hc := Lib.hid (Hc.out.ext X11)
  have Hd := Lib.hid (Hd.out.ext X11)
  have Hf := Lib.hid (Hf.out.ext X11)
  have Hg := Lib.hid (Hg.out.ext X11)
  clear E10 X11
  go_wp2_with fail
  refine (equal_vec _ _ ([(⟨#[51, 47, 52]⟩ : ByteArray), (⟨#[48]⟩ : ByteArray), (⟨#[49, 47, 52]⟩ : ByteArray)] : List ByteArray) _ (by exact Hc.out.ext (by repeat' (first | with_reducible exact Ext.refl _ | with_reducible apply Ext.alloc))) (by exact lit_strs_at _ _ ([(⟨#[51, 47, 52]⟩ : ByteArray), (⟨#[48]⟩ : ByteArray), (⟨#[49, 47, 52]⟩ : ByteArray)] : List ByteArray) (by simp) _ (by first | rfl | simp))).mono ?_
  rintro e w12 ⟨rfl, Y12⟩
  have X12 : Ext w11 w12 := Ext.trans (by repeat' (first | with_reducible exact Ext.refl _ | with_reducible apply Ext.alloc)) Y12
  clear Y12
  have E12 := E11.trans X12
  have HPS := Lib.hid (HPS.out.ext X12)
  have Ha := Lib.hid (Ha.out.ext X12)
  have Hb := Lib.hid (Hb.out.ext X12)
  have Hc := Lib.hid (Hc.out.ext X12)
  have Hd := Lib.hid (Hd.out.ext X12)
  have Hf := Lib.hid (Hf.out.ext X12)
  have Hg := Lib.hid (Hg.out.ext X12)
  clear E11 X12
  go_wp2_with fail
  refine (equal_vec _ _ ([(⟨#[49]⟩ : ByteArray), (⟨#[48]⟩ : ByteArray)] : List ByteArray) _ (by exact Hd.out.ext (by repeat' (first | with_reducible exact Ext.refl _ | with_reducible apply Ext.alloc))) (by exact lit_strs_at _ _ ([(⟨#[49]⟩ : ByteArray), (⟨#[48]⟩ : ByteArray)] : List ByteArray) (by simp) _ (by first | rfl | simp))).mono ?_
  rintro e w13 ⟨rfl, Y13⟩
  have X13 : Ext w12 w13 := Ext.trans (by repeat' (first | with_reducible exact Ext.refl _ | with_reducible apply Ext.alloc)) Y13
  clear Y13
  have E13 := E12.trans X13
  have HPS := Lib.hid (HPS.out.ext X13)
  have Ha := Lib.hid (Ha.out.ext X13)
  have Hb := Lib.hid (Hb.out.ext X13)
  have Hc := Lib.hid (Hc.out.ext X13)
  have Hd := Lib.hid (Hd.out.ext X13)
  have Hf := Lib.hid (Hf.out.ext X13)
  have Hg := Lib.hid (Hg.out.ext X13)
  clear E12 X13
  go_wp2_with fail
  refine (equal_vec _ _ ([(⟨#[49, 47, 50]⟩ : ByteArray), (⟨#[49, 47, 50]⟩ : ByteArray)] : List ByteArray) _ (by exact Hf.out.ext (by repeat' (first | with_reducible exact Ext.refl _ | with_reducible apply Ext.alloc))) (by exact lit_strs_at _ _ ([(⟨#[49, 47, 50]⟩ : ByteArray), (⟨#[49, 47, 50]⟩ : ByteArray)] : List ByteArray) (by simp) _ (by first | rfl | simp))).mono ?_
  rintro e w14 ⟨rfl, Y14⟩
  have X14 : Ext w13 w14 := Ext.trans (by repeat' (first | with_reducible exact Ext.refl _ | with_reducible apply Ext.alloc)) Y14
  clear Y14
  have E14 := E13.trans X14
  have HPS := Lib.hid (HPS.out.ext X14)
  have Ha := Lib.hid (Ha.out.ext X14)
  have Hb := Lib.hid (Hb.out.ext X14)
  have Hc := Lib.hid (Hc.out.ext X14)
  have Hd := Lib.hid (Hd.out.ext X14)
  have Hf := Lib.hid (Hf.out.ext X14)
  have Hg := Lib.hid (Hg.out.ext X14)
  clear E13 X14
  go_wp2_with fail
  refine (equal_prs _ _ psL _ (by exact Hg.out.ext (by repeat' (first | with_reducible exact Ext.refl _ | with_reducible apply Ext.alloc))) (by exact lit_prs _ _ psL (by decide) _ (by first | rfl | simp))).mono ?_
  rintro e w15 ⟨rfl, Y15⟩
  have X15 : Ext w14 w15 := Ext.trans (by repeat' (first | with_reducible exact Ext.refl _ | with_reducible apply Ext.alloc)) Y15
  clear Y15
  have E15 := E14.trans X15
  have HPS := Lib.hid (HPS.out.ext X15)
  have Ha := Lib.hid (Ha.out.ext X15)
  have Hb := Lib.hid (Hb.out.ext X15)
  have Hc := Lib.hid (Hc.out.ext X15)
  have Hd := Lib.hid (Hd.out.ext X15)
  have Hf := Lib.hid (Hf.out.ext X15)
  have Hg := Lib.hid (Hg.out.ext X15)
  clear E14 X15
  go_wp2_with fail
  refine (KP.out _).mono ?_
  rintro e w16 ⟨vp, rfl, hp, Y16⟩
  have X16 : Ext w15 w16 := Ext.trans (by repeat' (first | with_reducible exact Ext.refl _ | with_reducible apply Ext.alloc)) Y16
  clear Y16
  have E16 := E15.trans X16
  have HPS := Lib.hid (HPS.out.ext X16)
  have Ha := Lib.hid (Ha.out.ext X16)
  have Hb := Lib.hid (Hb.out.ext X16)
  have Hc := Lib.hid (Hc.out.ext X16)
  have Hd := Lib.hid (Hd.out.ext X16)
  have Hf := Lib.hid (Hf.out.ext X16)
  have Hg := Lib.hid (Hg.out.ext X16)
  clear E15 X16
  have HP := Lib.hid hp
  obtain ⟨usp, hrp, hulp, hep⟩ := hp
  obtain ⟨aop, cp, rfl, hx1⟩ := hrp
  clear hulp hep hx1
  go_wp2_with fail
  refine (K6.out _ _ _ (by exact HP.out.ext (by repeat' (first | with_reducible exact Ext.refl _ | with_reducible apply Ext.alloc))) (by exact lit_prs _ _ ([((2 : Int), (0 : Int))] : List (Int × Int)) (by decide) _ (by first | rfl | simp))).mono ?_
  rintro e w17 ⟨rfl, Y17⟩
  have X17 : Ext w16 w17 := Ext.trans (by repeat' (first | with_reducible exact Ext.refl _ | with_reducible apply Ext.alloc)) Y17
  clear Y17
  have E17 := E16.trans X17
  have HPS := Lib.hid (HPS.out.ext X17)
  have Ha := Lib.hid (Ha.out.ext X17)
  have Hb := Lib.hid (Hb.out.ext X17)
  have Hc := Lib.hid (Hc.out.ext X17)
  have Hd := Lib.hid (Hd.out.ext X17)
  have Hf := Lib.hid (Hf.out.ext X17)
  have Hg := Lib.hid (Hg.out.ext X17)
  clear E16 X17
  go_wp2_with fail
  go_ret
  exact ⟨by first | rfl | simp, E17⟩
end Go.Proofs.YtjnaecicdaiimaaGreatDoor
