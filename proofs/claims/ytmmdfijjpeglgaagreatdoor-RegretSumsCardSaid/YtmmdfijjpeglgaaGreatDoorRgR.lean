/- the law RegretSums -/
import Derived.Test.YtmmdfijjpeglgaaGreatDoorRgQ
namespace Go.Proofs.YtmmdfijjpeglgaaGreatDoor
open Go.RowKit
set_option linter.unusedVariables false

theorem row_cells {w : World} {b o n c : Nat} {m : List (List ByteArray)} (hv : Rows Value.string w (.slice (some ⟨b, o, none⟩) n c) m) {x : Nat} {lx : List ByteArray} (h1 : m[x]? = some lx) :
    ∃ ao cc, ∀ W, Ext w W → W.cell? ⟨b, o + x, none⟩ = some (.slice ao lx.length cc) ∧ ∀ (y : Nat) s, lx[y]? = some s → ∃ bb ob, ao = some ⟨bb, ob, none⟩ ∧ W.cell? ⟨bb, ob + y, none⟩ = some (.string s) := by
  obtain ⟨us, hr, hul, hel⟩ := hv
  obtain ⟨ao, c2, e, _, hlen, _, hc⟩ := hr
  have hx := (List.getElem?_eq_some_iff.1 h1).1
  have hu : us[x]? = some (us[x]'(by omega)) := List.getElem?_eq_getElem (by omega)
  obtain ⟨b2, o2, eb, hcell⟩ := hc x _ hu
  rw [eb] at e
  simp only [Value.slice.injEq, Option.some.injEq, Addr.mk.injEq, and_true] at e
  obtain ⟨⟨rfl, rfl⟩, _, _⟩ := e
  obtain ⟨ao3, c3, e3, _, hc3⟩ := (hel x _ lx hu h1).open
  refine ⟨ao3, c3, fun W hW => ⟨by rw [hW.cell hcell, e3], fun y s h2 => ?_⟩⟩
  exact hc3.ext hW y _ (by rw [List.getElem?_map, h2]; rfl)
theorem vast_rows {n : Nat} {m : List (List ByteArray)} (h : vastB n [m] = false) : m.length ≤ n ∧ ∀ l ∈ m, l.length ≤ n ∧ ∀ s ∈ l, s.size ≤ 12 := by
  unfold vastB at h
  rw [List.any_cons, List.any_nil, Bool.or_false] at h
  unfold vastM at h
  rw [Bool.or_eq_false_iff, decide_eq_false_iff_not] at h
  refine ⟨by omega, fun l hl => ?_⟩
  have h2 := List.any_eq_false.1 h.2 l hl
  have h2 : vastR n l = false := by simpa using h2
  unfold vastR at h2
  rw [Bool.or_eq_false_iff, decide_eq_false_iff_not] at h2
  refine ⟨by omega, fun s hs => ?_⟩
  have h3 := List.any_eq_false.1 h2.2 s hs
  simp only [decide_eq_true_eq] at h3
  omega
theorem colQ_getD {M : List (List Rat)} {x k : Nat} (h : x < M.length) : (colQ M k).getD x 0 = (M.getD x []).getD k 0 := by
  unfold colQ
  rw [List.getD_eq_getElem?_getD, List.getD_eq_getElem?_getD (l := M), List.getElem?_map, List.getElem?_eq_getElem h]
  rfl
def rowF (M : List (List Rat)) (i : Nat) (p : Int × Int) : Rat := (M.getD i []).getD p.2.toNat 0 - atQ M p
def colF (M : List (List Rat)) (k : Nat) (p : Int × Int) : Rat := atQ M p - (M.getD p.1.toNat []).getD k 0
theorem bad_lt {n k : Nat} {p : Int × Int} (h : badP n k p = false) : p.1.toNat < n ∧ p.2.toNat < k := by
  unfold badP at h
  rw [decide_eq_false_iff_not] at h
  omega
theorem regRows_get {m : List (List ByteArray)} {ps : List (Int × Int)} (hr : ∀ l ∈ m, l.length = wideL m) (hb : ∀ p ∈ ps, badP m.length (wideL m) p = false) {i : Nat} (hi : i < m.length) : (regRows m ps)[i]? = some (sumP (rowF (numM m) i) ps 0) := by
  have hM : (numM m)[i]? = some ((numM m).getD i []) := by
    have h2 : i < (numM m).length := by unfold numM; rw [List.length_map]; exact hi
    rw [List.getD_eq_getElem?_getD, List.getElem?_eq_getElem h2]; rfl
  have hl := numM_len hr _ (List.mem_of_getElem? hM)
  unfold regRows rowsS gotQ
  rw [List.getElem?_map, List.getElem?_map, hM]
  show some (dotQ _ _ - _) = _
  rw [dot_cnt _ _ _ _ (fun p hp => by have := bad_lt (hb p hp); rw [hl]; exact ⟨this.2, this.2⟩)]
  rw [← sumP_sub (fun p => ((numM m).getD i []).getD p.2.toNat 0) (atQ (numM m)) (rowF (numM m) i) (fun p => rfl)]
  rw [show ((0 : Rat) - 0) = 0 by grind]
theorem regCols_get {m : List (List ByteArray)} {ps : List (Int × Int)} (hb : ∀ p ∈ ps, badP m.length (wideL m) p = false) {k : Nat} (hk : k < wideL m) : (regCols m ps)[k]? = some (sumP (colF (numM m) k) ps 0) := by
  have hM : (colsQ (numM m) (wideL m))[k]? = some (colQ (numM m) k) := by
    unfold colsQ
    rw [List.getElem?_map, List.getElem?_range hk]; rfl
  have hn : (numM m).length = m.length := by unfold numM; rw [List.length_map]
  have hl : (colQ (numM m) k).length = m.length := by unfold colQ; rw [List.length_map, hn]
  unfold regCols colsS gotQ
  rw [List.getElem?_map, List.getElem?_map, hM]
  show some (_ - dotQ _ _) = _
  rw [dot_cnt _ _ _ _ (fun p hp => by have := bad_lt (hb p hp); rw [hl]; exact ⟨this.1, this.1⟩)]
  rw [← sumP_sub (atQ (numM m)) (fun p => (colQ (numM m) k).getD p.1.toNat 0) (fun p => atQ (numM m) p - (colQ (numM m) k).getD p.1.toNat 0) (fun p => rfl)]
  rw [show ((0 : Rat) - 0) = 0 by grind]
  rw [sumP_congr (f := fun p => atQ (numM m) p - (colQ (numM m) k).getD p.1.toNat 0) (g := colF (numM m) k) ps 0 fun p hp => ?_]
  show _ - _ = _ - _
  rw [colQ_getD (by rw [hn]; exact (bad_lt (hb p hp)).1)]
theorem numM_at {m : List (List ByteArray)} {x y : Nat} {l : List ByteArray} {s : ByteArray} (h : m[x]? = some l) (h2 : l[y]? = some s) : ((numM m).getD x []).getD y 0 = ratOf s := by
  have := atQ_numM (x := x) (y := y) h h2
  exact this
set_option maxHeartbeats 3200000 in
theorem regretSums_walk (v u : Value) (m : List (List ByteArray)) (ps : List (Int × Int)) (w : World) (hv : Rows Value.string w v m) (hu : Prs w u ps) (hs : ∀ l ∈ m, ∀ s ∈ l, s.size ≤ 9223372036854775806) (htab : TabPow w) :
    Calls Tryz.prog 13 #[v, u] w fun e w' => e = .returned (.bool true) ∧ Ext w w' := by
  have H0 := regretFact_tab2 htab
  have H1 := Lib.hid (fun W (hx : Ext w W) => weight_any v m W (hv.ext hx))
  have H3 : ∀ q, histE m ps = q → Hid (∀ W, Ext w W → Calls Tryz.prog 67 #[v, u] W fun e w' => e = .returned (.int .i64 q) ∧ Ext W w') := fun q hq W hx => history_any v u m ps W (hv.ext hx) (hu.ext hx) hs q hq
  have H4 : ∀ q, histE m ps = q → Hid (∀ W, Ext w W → Calls Tryz.prog 68 #[v, u] W fun e w' => e = .returned (.int .i64 q) ∧ Ext W w') := fun q hq W hx => rgCheck_any v u m ps W (hv.ext hx) (hu.ext hx) hs q hq
  have H5 : ∀ q, vastB 5 [m] = q → Hid (∀ v W, MatsV W v [m] → Calls Tryz.prog 56 #[.int .i64 5, v] W fun e w' => e = .returned (.bool q) ∧ Ext W w') := fun q hq v W h => vast_any v 5 [m] W h (by omega) (fun m2 hm r hr s h2 => by
    simp only [List.mem_singleton] at hm
    subst hm
    exact hs r hr s h2) q hq
  have HV := Lib.hid hv
  have HU := Lib.hid hu
  have HRE : histE m ps ≠ 0 → ∀ W, Ext w W → Calls Tryz.prog 66 #[v, u] W fun e w' => e = .returned (.tuple #[.slice none 0 0, .slice none 0 0, .int .i64 (histE m ps)]) ∧ Ext W w' := fun he W hx => regrets_err v u m ps W (hv.ext hx) (hu.ext hx) hs he
  have HRG : histE m ps = 0 → ∀ W, Ext w W → Calls Tryz.prog 66 #[v, u] W (BothPost (regRows m ps) (regCols m ps) W) := fun he W hx => regrets_go v u m ps W (tabPow_ext htab hx) (hv.ext hx) (hu.ext hx) hs he
  obtain ⟨us, hr, hul, hel⟩ := hv
  obtain ⟨ao, c, rfl, _, hlen, _, hc⟩ := hr
  obtain ⟨bo, d, rfl, hul2, hpc⟩ := hu
  by_cases he : histE m ps = 0
  · obtain ⟨hg0, hp200, hbad⟩ := histE_zero he
    have hm := matOk_of hs hg0
    cases hvb : vastB 5 [m] with
    | true => exact regretS_vast ao bo c d us.length m ps w HV HU _ _ H0 H1 (HRG he) (H3 0 he) (H4 0 he) (H5 true hvb)
    | false =>
      by_cases h30 : 30 < ps.length
      · exact regretS_long ao bo c d us.length m ps w HV HU _ _ (by omega) H0 H1 (HRG he) (H3 0 he) (H4 0 he) (H5 false hvb)
      obtain ⟨hm5, hrow5⟩ := vast_rows hvb
      obtain ⟨u0, e1, _, _⟩ := get_lt (show 0 < us.length by rw [hul]; exact hm.pos)
      obtain ⟨l0, r1, _, _⟩ := get_lt (xs := m) (k := 0) hm.pos
      obtain ⟨b0, o0, rfl, hc1⟩ := hc 0 u0 e1.out
      have hwl : wideL m = l0.length := by unfold wideL; rw [List.headD_eq_head?_getD, List.head?_eq_getElem?, r1.out]; rfl
      obtain ⟨a0, c0, hrc0⟩ := row_cells HV.out r1.out
      have hrb : ∀ l ∈ m, ∀ s ∈ l, RB 12 (ratOf s) := fun l hl s h => ratOf_RB (hm.ok l hl s h).1 ((hrow5 l hl).2 s h) (by omega)
      have htx : ∀ l ∈ m, ∀ s ∈ l, ratT (ratOf s) = s := fun l hl s h => (text_ratT (hm.ok l hl s h).1).symm
      have hgot : RB (1 + 13 * ps.length) (gotQ m ps) := sumP_RB ps 0 1 RB_zero fun p hp => by
        have hb := bad_lt (hbad p hp)
        obtain ⟨lx, g1, _, _⟩ := get_lt (xs := m) (k := p.1.toNat) hb.1
        have hlx := hm.rect lx (List.mem_of_getElem? g1.out)
        obtain ⟨sx, g2, _, _⟩ := get_lt (xs := lx) (k := p.2.toNat) (by rw [hlx]; exact hb.2)
        show RB 12 (((numM m).getD p.1.toNat []).getD p.2.toNat 0)
        rw [numM_at g1.out g2.out]
        exact hrb lx (List.mem_of_getElem? g1.out) sx (List.mem_of_getElem? g2.out)
      have hq1 : ∀ q ∈ regRows m ps, RB 480 q := fun q hq => by
        unfold regRows at hq
        obtain ⟨q1, h1, rfl⟩ := List.mem_map.1 hq
        exact (RB_sub (rowsS_RB (ps := ps) (n := 5) hrb (fun l hl => (hrow5 l hl).1) hp200 q1 h1) hgot).mono (by omega)
      have hq2 : ∀ q ∈ regCols m ps, RB 480 q := fun q hq => by
        unfold regCols at hq
        obtain ⟨q1, h1, rfl⟩ := List.mem_map.1 hq
        exact (RB_sub hgot (colsS_RB (ps := ps) (n := 5) hrb (by omega) hm5 hp200 q1 h1)).mono (by omega)
      have ho1 := outsG_all hq1 (by omega)
      have ho2 := outsG_all hq2 (by omega)
      have hl1 : (regRows m ps).length = m.length := by unfold regRows; rw [List.length_map, rowsS_len]
      have hl2 : (regCols m ps).length = wideL m := by unfold regCols; rw [List.length_map, colsS_len]
      have rowget : ∀ x, x < m.length → ∃ lx, m[x]? = some lx ∧ lx.length = wideL m := fun x hx => ⟨_, List.getElem?_eq_getElem hx, hm.rect _ (List.getElem_mem hx)⟩
      refine regretS_full b0 o0 a0 bo c d us.length (wideL m) c0 m ps w HV HU (by omega) (by have := hm.pos; omega) (by omega) (by have := hm.wide; omega) (rowF (numM m)) (colF (numM m)) ((regRows m ps).map ratT) ((regCols m ps).map ratT) (by show _ = _; rw [List.length_map, hl1, hul]) (by show _ = _; rw [List.length_map, hl2]) ?_ (by rw [hul]; exact hbad) ?_ ?_ ?_ ?_ ?_ ?_ H0 H1 ?_ (H3 0 he) (H4 0 he) (H5 false hvb) ?_ ?_ ?_
      · intro W hx
        have := (hrc0 W hx).1
        rw [Nat.add_zero] at this
        rw [hwl]
        exact this
      · intro W i x y hx hi hxx hy
        obtain ⟨lx, g1, g2⟩ := rowget x (by omega)
        obtain ⟨li, g3, g4⟩ := rowget i (by omega)
        obtain ⟨sx, g5, _, _⟩ := get_lt (xs := lx) (k := y) (by omega)
        obtain ⟨si, g6, _, _⟩ := get_lt (xs := li) (k := y) (by omega)
        obtain ⟨ax, cx, hx1⟩ := row_cells HV.out g1
        obtain ⟨ai, ci, hx2⟩ := row_cells HV.out g3
        obtain ⟨k1, k2⟩ := hx1 W hx
        obtain ⟨k3, k4⟩ := hx2 W hx
        obtain ⟨bb, ob, rfl, k5⟩ := k2 y sx g5.out
        obtain ⟨bb2, ob2, rfl, k6⟩ := k4 y si g6.out
        exact ⟨bb, ob, cx, lx, sx, bb2, ob2, ci, li, si, g1, g5.out, g3, g6.out, k1, k5, k3, k6⟩
      · intro W x y k hx hxx hy hk
        obtain ⟨lx, g1, g2⟩ := rowget x (by omega)
        obtain ⟨sx, g5, _, _⟩ := get_lt (xs := lx) (k := y) (by omega)
        obtain ⟨sk, g6, _, _⟩ := get_lt (xs := lx) (k := k) (by omega)
        obtain ⟨ax, cx, hx1⟩ := row_cells HV.out g1
        obtain ⟨k1, k2⟩ := hx1 W hx
        obtain ⟨bb, ob, e5, k5⟩ := k2 y sx g5.out
        obtain ⟨bb2, ob2, e6, k6⟩ := k2 k sk g6.out
        rw [e5] at e6
        simp only [Option.some.injEq, Addr.mk.injEq, and_true] at e6
        obtain ⟨rfl, rfl⟩ := e6
        exact ⟨bb, ob, cx, lx, sx, sk, g1, g5.out, g6.out, by rw [k1, e5], k5, k6⟩
      · intro i x y lx li sx si h1 h2 h3 h4
        show ((numM m).getD i []).getD ((y : Int)).toNat 0 - atQ (numM m) ((x : Int), (y : Int)) = _
        rw [atQ_numM h1 h3, show ((y : Int)).toNat = y by omega, numM_at h2 h4]
      · intro k x y lx sx sk h1 h2 h3
        show atQ (numM m) ((x : Int), (y : Int)) - ((numM m).getD ((x : Int)).toNat []).getD k 0 = _
        rw [atQ_numM h1 h2, show ((x : Int)).toNat = x by omega, numM_at h1 h3]
      · intro i hi
        rw [List.getElem?_map, regRows_get hm.rect hbad (by omega)]
        rfl
      · intro k hk
        rw [List.getElem?_map, regCols_get hbad hk]
        rfl
      · intro W hx
        refine (HRG he W hx).mono ?_
        rintro e w' ⟨X, h⟩
        rcases h with ⟨os, os2, u1, u2, hn1, hn2, rfl, s1, s2⟩ | ⟨hn, _⟩
        · rw [ho1] at hn1
          rw [ho2] at hn2
          cases hn1
          cases hn2
          exact ⟨u1, u2, rfl, s1, s2, X⟩
        · rcases hn with hn | hn
          · rw [ho1] at hn; cases hn
          · rw [ho2] at hn; cases hn
      · rintro s t W ⟨l, hl, hsl⟩ ⟨l2, hl2', hsl2⟩
        have := rSub_any (by omega) (hrb l hl s hsl) (hrb l2 hl2' t hsl2) W
        rwa [htx l hl s hsl, htx l2 hl2' t hsl2] at this
      · rintro s t ⟨l, hl, hsl⟩ ⟨l2, hl2', hsl2⟩
        exact RB_sub (hrb l hl s hsl) (hrb l2 hl2' t hsl2)
      · intro a q k W ha hk hq
        exact rAdd_any (by omega) ha hq W
  · exact regretS_err ao bo c d us.length m ps w HV HU (histE m ps) (by simp [he]) (by simp) (by simp) H0 H1 (HRE he) (H3 _ rfl) (H4 _ rfl)
end Go.Proofs.YtmmdfijjpeglgaaGreatDoor
