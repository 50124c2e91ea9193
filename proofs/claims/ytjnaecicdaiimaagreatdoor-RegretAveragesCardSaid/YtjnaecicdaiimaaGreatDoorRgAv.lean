/- the law RegretAverages -/
import Derived.Test.YtjnaecicdaiimaaGreatDoorRgZ
namespace Go.Proofs.YtjnaecicdaiimaaGreatDoor
open Go.RowKit
set_option linter.unusedVariables false

theorem colQ_len2 (M : List (List Rat)) (k : Nat) : (colQ M k).length = M.length := by unfold colQ; rw [List.length_map]
theorem rat_pos2 {q : Rat} (h : 0 < q.num.sign) : 0 < q := by
  rw [Rat.lt_iff]
  have h2 : 0 < q.num := by
    rcases (show q.num < 0 ∨ q.num = 0 ∨ 0 < q.num by omega) with h1 | h1 | h1
    · rw [Int.sign_eq_neg_one_of_neg h1] at h; omega
    · rw [h1] at h; simp at h
    · exact h1
  simpa using h2
theorem col_texts {m : List (List ByteArray)} {k : Nat} (hr : ∀ l ∈ m, k < l.length) (htx : ∀ l ∈ m, ∀ s ∈ l, ratT (ratOf s) = s) : (colQ (numM m) k).map ratT = tcol m k := by
  unfold colQ numM tcol
  rw [List.map_map, List.map_map]
  refine List.map_congr_left fun l hl => ?_
  show ratT ((l.map ratOf).getD k 0) = l.getD k ⟨#[]⟩
  have h := hr l hl
  rw [List.getD_eq_getElem?_getD, List.getElem?_map, List.getD_eq_getElem?_getD, List.getElem?_eq_getElem h]
  exact htx l hl _ (List.getElem_mem h)
theorem row_texts {l : List ByteArray} (htx : ∀ s ∈ l, ratT (ratOf s) = s) : (l.map ratOf).map ratT = l := by
  rw [List.map_map]
  have : l.map (ratT ∘ ratOf) = l.map id := List.map_congr_left fun s hs => htx s hs
  rw [this, List.map_id]
theorem getD_div (xs : List Rat) (n : Rat) {i : Nat} (h : i < xs.length) : (xs.map (· / n))[i]? = some (xs.getD i 0 / n) := by
  rw [List.getElem?_map, List.getD_eq_getElem?_getD, List.getElem?_eq_getElem h]
  rfl
theorem getD_mem {xs : List Rat} {i : Nat} (h : i < xs.length) : xs.getD i 0 ∈ xs := by
  rw [List.getD_eq_getElem?_getD, List.getElem?_eq_getElem h]
  exact List.getElem_mem h

set_option maxHeartbeats 3200000 in
theorem regretAverages_walk (v u : Value) (m : List (List ByteArray)) (ps : List (Int × Int)) (w : World) (hv : Rows Value.string w v m) (hu : Prs w u ps) (hs : ∀ l ∈ m, ∀ s ∈ l, s.size ≤ 9223372036854775806) (htab : TabPow w) :
    Calls Tryz.prog 4 #[v, u] w fun e w' => e = .returned (.bool true) ∧ Ext w w' := by
  have H0 := regretFact_tab2 htab
  have H1 := Lib.hid (fun W (hx : Ext w W) => weight_any v m W (hv.ext hx))
  have H4 : ∀ q, histE m ps = q → Hid (∀ W, Ext w W → Calls Tryz.prog 20 #[v, u] W fun e w' => e = .returned (.int .i64 q) ∧ Ext W w') := fun q hq W hx => history_any v u m ps W (hv.ext hx) (hu.ext hx) hs q hq
  have H5 : ∀ q, vastB 5 [m] = q → Hid (∀ v W, MatsV W v [m] → Calls Tryz.prog 13 #[.int .i64 5, v] W fun e w' => e = .returned (.bool q) ∧ Ext W w') := fun q hq v W h => vast_any v 5 [m] W h (by omega) (fun m2 hm r hr s h2 => by
    simp only [List.mem_singleton] at hm
    subst hm
    exact hs r hr s h2) q hq
  have HV := Lib.hid hv
  have HAE : ∀ q, histN m ps = q → q ≠ 0 → Hid (∀ W, Ext w W → Calls Tryz.prog 18 #[v, u] W fun e w' => e = .returned (.tuple #[.slice none 0 0, .slice none 0 0, .int .i64 q]) ∧ Ext W w') := fun q hq h W hx => by
    subst hq
    exact average_err v u m ps W (hv.ext hx) (hu.ext hx) hs h
  have HBE : ∀ q, histN m ps = q → q ≠ 0 → Hid (∀ W, Ext w W → Calls Tryz.prog 19 #[v, u] W fun e w' => e = .returned (.tuple #[.string ⟨#[]⟩, .string ⟨#[]⟩, .int .i64 q]) ∧ Ext W w') := fun q hq h W hx => by
    subst hq
    exact bounds_err v u m ps W (hv.ext hx) (hu.ext hx) hs h
  have HAG : histN m ps = 0 → ∀ W, Ext w W → Calls Tryz.prog 18 #[v, u] W (BothPost (avgRows m ps) (avgCols m ps) W) := fun h W hx => average_go v u m ps W (tabPow_ext htab hx) (hv.ext hx) (hu.ext hx) hs h
  have HBG : histN m ps = 0 → ∀ W, Ext w W → Calls Tryz.prog 19 #[v, u] W (BoundsPost (lowQ m ps / ((ps.length : Int) : Rat)) (highQ m ps / ((ps.length : Int) : Rat)) W) := fun h W hx => bounds_go v u m ps W (tabPow_ext htab hx) (hv.ext hx) (hu.ext hx) hs h
  have HBA : histN m ps = 0 → Hid (∀ W, Ext w W → Calls Tryz.prog 19 #[v, u] W fun e w' => ∃ s1 s2 z, e = .returned (.tuple #[.string s1, .string s2, .int .i64 z]) ∧ Ext W w') := fun h W hx => by
    refine (HBG h W hx).mono ?_
    rintro e w' ⟨X, h⟩
    rcases h with ⟨_, _, rfl⟩ | ⟨_, rfl⟩
    · exact ⟨_, _, _, rfl, X⟩
    · exact ⟨_, _, _, rfl, X⟩
  obtain ⟨us, hr, hul, hel⟩ := hv
  obtain ⟨ao, c, rfl, _, hlen, _, hc⟩ := hr
  obtain ⟨bo, d, rfl, hul2, hpc⟩ := hu
  by_cases he : histE m ps = 0
  · by_cases h0 : ps.length = 0
    · have h8 : histN m ps = 8 := by unfold histN; rw [if_neg (by simpa using he), if_pos h0]
      exact avgs_err2 ao bo c d us.length m ps w HV (by rw [h0]; rfl) H0 H1 (HAE 8 h8 (by omega)) (HBE 8 h8 (by omega)) (H4 0 he)
    have hN : histN m ps = 0 := by unfold histN; rw [if_neg (by simpa using he), if_neg h0]
    have hb0 : ((ps.length : Int) == 0) = false := by rw [beq_eq_false_iff_ne]; omega
    cases hvb : vastB 5 [m] with
    | true => exact avgs_vast ao bo c d us.length m ps w HV hb0 _ _ H0 H1 (HAG hN) (HBA hN) (H4 0 he) (H5 true hvb)
    | false =>
      by_cases h30 : 30 < ps.length
      · exact avgs_long ao bo c d us.length m ps w HV hb0 (by omega) _ _ H0 H1 (HAG hN) (HBA hN) (H4 0 he) (H5 false hvb)
      obtain ⟨hg0, hp200, hbad⟩ := histE_zero he
      have hm := matOk_of hs hg0
      obtain ⟨hm5, hrow5⟩ := vast_rows hvb
      have hwp : 0 < wideL m := (gameE_zero hg0).2.2.1
      have hmp := hm.pos
      have hw40 := hm.wide
      obtain ⟨u0, e1, _, _⟩ := get_lt (show 0 < us.length by rw [hul]; exact hm.pos)
      obtain ⟨l0, r1, _, _⟩ := get_lt (xs := m) (k := 0) hm.pos
      obtain ⟨b0, o0, rfl, hc1⟩ := hc 0 u0 e1.out
      have hc1 : w.cell? ⟨b0, o0, none⟩ = some u0 := hc1
      have hst0 := hel 0 u0 l0 e1.out r1.out
      obtain ⟨a0, c0, rfl, _, _⟩ := hst0.open
      have hwl : wideL m = l0.length := by unfold wideL; rw [List.headD_eq_head?_getD, List.head?_eq_getElem?, r1.out]; rfl
      rw [← hwl] at hc1 hst0
      have hw5 : wideL m ≤ 5 := by rw [hwl]; exact (hrow5 l0 (List.mem_of_getElem? r1.out)).1
      have hrb : ∀ l ∈ m, ∀ s ∈ l, RB 12 (ratOf s) := fun l hl s h => ratOf_RB (hm.ok l hl s h).1 ((hrow5 l hl).2 s h) (by omega)
      have htx : ∀ l ∈ m, ∀ s ∈ l, ratT (ratOf s) = s := fun l hl s h => (text_ratT (hm.ok l hl s h).1).symm
      have hnn : (((ps.length : Int) : Rat)).num = (ps.length : Int) := Rat.num_intCast _
      have hn0 : (((ps.length : Int) : Rat)).num ≠ 0 := by rw [hnn]; omega
      have hnpos : (0 : Rat) < ((ps.length : Int) : Rat) := rat_pos2 (by rw [hnn, Int.sign_eq_one_of_pos (by omega)]; decide)
      have hnRB : RB 4 ((ps.length : Int) : Rat) := ⟨by rw [hnn]; omega, by rw [Rat.den_intCast]; omega⟩
      have hrs := rowsS_RB (ps := ps) (n := 5) hrb (fun l hl => (hrow5 l hl).1) hp200
      have hcs := colsS_RB (ps := ps) (n := 5) hrb (by omega) hm5 hp200
      have hrl := rowsS_len m ps
      have hcl := colsS_len m ps
      have ha1 : ∀ q ∈ avgRows m ps, RB 7 q := fun q hq => by
        unfold avgRows at hq
        obtain ⟨q1, h1, rfl⟩ := List.mem_map.1 hq
        exact RB_div hn0 (ratsI_RB (xs := cntF (·.1) ps m.length) (fun x hx => by have := cntF_le _ _ _ x hx; omega) q1 h1) hnRB
      have ha2 : ∀ q ∈ avgCols m ps, RB 7 q := fun q hq => by
        unfold avgCols at hq
        obtain ⟨q1, h1, rfl⟩ := List.mem_map.1 hq
        exact RB_div hn0 (ratsI_RB (xs := cntF (·.2) ps (wideL m)) (fun x hx => by have := cntF_le _ _ _ x hx; omega) q1 h1) hnRB
      have hal1 : (avgRows m ps).length = m.length := by unfold avgRows ratsI; rw [List.length_map, List.length_map, cntF_len]
      have hal2 : (avgCols m ps).length = wideL m := by unfold avgCols ratsI; rw [List.length_map, List.length_map, cntF_len]
      have ho1 := outsG_all ha1 (by omega)
      have ho2 := outsG_all ha2 (by omega)
      have hSR : ∀ i, i < m.length → RB 85 ((rowsS m ps).getD i 0 / ((ps.length : Int) : Rat)) := fun i hi => RB_div hn0 (hrs _ (getD_mem (by omega))) hnRB
      have hSC : ∀ i, i < wideL m → RB 85 ((colsS m ps).getD i 0 / ((ps.length : Int) : Rat)) := fun i hi => RB_div hn0 (hcs _ (getD_mem (by omega))) hnRB
      have hbr : bestS 1 ((rowsS m ps).map (· / ((ps.length : Int) : Rat))) ((rowsS m ps).map (· / ((ps.length : Int) : Rat))) 0 0 = bestS 1 (rowsS m ps) (rowsS m ps) 0 0 := bestS_div hnpos 1 (.inl rfl) _ _ _ _
      have hbc : bestS (-1) ((colsS m ps).map (· / ((ps.length : Int) : Rat))) ((colsS m ps).map (· / ((ps.length : Int) : Rat))) 0 0 = bestS (-1) (colsS m ps) (colsS m ps) 0 0 := bestS_div hnpos (-1) (.inr rfl) _ _ _ _
      have hi1 := bestS_lt 1 (rowsS m ps) (rowsS m ps) 0 0 (by omega) (by omega)
      have hi2 := bestS_lt (-1) (colsS m ps) (colsS m ps) 0 0 (by omega) (by omega)
      have rowget : ∀ x, x < m.length → ∃ lx, m[x]? = some lx ∧ lx.length = wideL m := fun x hx => ⟨_, List.getElem?_eq_getElem hx, hm.rect _ (List.getElem_mem hx)⟩
      refine avgs_full b0 o0 bo c d us.length m ps w HV hb0 (by omega) (by omega) (by omega) (wideL m) c0 a0 (fun W hx => hx.cell hc1) hwp (by omega) (by omega) (by omega) ((avgRows m ps).map ratT) ((avgCols m ps).map ratT)
        ((rowsS m ps).map (· / ((ps.length : Int) : Rat))) ((colsS m ps).map (· / ((ps.length : Int) : Rat))) (fun i => (rowsS m ps).getD i 0 / ((ps.length : Int) : Rat)) (fun i => (colsS m ps).getD i 0 / ((ps.length : Int) : Rat))
        (by show _ = _; rw [List.length_map, hal1, hul]) (by show _ = _; rw [List.length_map, hal2]) (by rw [hul]; exact hbad) ?_ ⟨a0, c0, l0, r1.out, fun W hx => ⟨hx.cell hc1, hst0.ext hx⟩⟩ ?_ ?_ (by show _ = _; rw [List.length_map, hrl, hul]) (by show _ = _; rw [List.length_map, hcl])
        (fun i hi => getD_div _ _ (by omega)) (fun i hi => getD_div _ _ (by omega)) (fun i hi => (hSR i (by omega)).mono (by omega)) (fun i hi => (hSC i (by omega)).mono (by omega)) ?_ ?_ ?_ hpc H0 H1 ?_ ?_ (H4 0 he) (H5 false hvb)
      · intro W i hx hi
        obtain ⟨lx, g1, g2⟩ := rowget i (by omega)
        obtain ⟨us2, hr2, hul2, hel2⟩ := HV.out.ext hx
        obtain ⟨ao2, c2, e2, _, _, _, hcc2⟩ := hr2
        have hlt : i < us2.length := by omega
        obtain ⟨bb, ob, e3, hcell⟩ := hcc2 i _ (List.getElem?_eq_getElem hlt)
        rw [e3] at e2
        simp only [Value.slice.injEq, Option.some.injEq, Addr.mk.injEq, and_true] at e2
        obtain ⟨⟨rfl, rfl⟩, _, _⟩ := e2
        have hst := hel2 i _ lx (List.getElem?_eq_getElem hlt) g1
        obtain ⟨ai, ci, e4, _, _⟩ := hst.open
        rw [e4] at hcell hst
        rw [g2] at hcell hst
        exact ⟨ai, ci, lx, hcell, g1, hst⟩
      · intro i z hz
        rw [hul] at hz
        rw [List.getElem?_map, avgRows_get hz]
        rfl
      · intro i z hz
        rw [List.getElem?_map, avgCols_get hz]
        rfl
      · intro i l u v W hml hu hv
        have hl := List.mem_of_getElem? hml
        have := rDot_any u v (l.map ratOf) (avgCols m ps) 12 7 W (by rw [row_texts (htx l hl)]; exact hu) hv (by rw [hal2, List.length_map, hm.rect l hl]) (by rw [List.length_map, hm.rect l hl]; omega) (by omega) (fun q hq => by
          obtain ⟨s, hs2, rfl⟩ := List.mem_map.1 hq
          exact hrb l hl s hs2) ha2
        rwa [row_dot hml] at this
      · intro k u v W hk hu hv
        have := rDot_any u v (colQ (numM m) k) (avgRows m ps) 12 7 W (by rw [col_texts (fun l hl => by rw [hm.rect l hl]; exact hk) htx]; exact hu) hv (by rw [hal1, colQ_len2]; unfold numM; rw [List.length_map]) (by rw [colQ_len2]; unfold numM; rw [List.length_map]; omega) (by omega) (colQ_RB (numM_RB hrb) (by omega) k) ha1
        rwa [col_dot hk] at this
      · intro k W hk hx
        exact rColumn_any _ m k (wideL m) W (HV.out.ext hx) hm.rect hk (by omega)
      · intro W hx
        refine (HAG hN W hx).mono ?_
        rintro e w' ⟨X, h⟩
        rcases h with ⟨os, os2, u1, u2, hn1, hn2, rfl, s1, s2⟩ | ⟨hn, _⟩
        · rw [ho1] at hn1
          rw [ho2] at hn2
          cases hn1
          cases hn2
          exact ⟨u1, u2, rfl, s1, s2, X⟩
        · rcases hn with hn | hn
          · rw [ho1] at hn; cases hn
          · rw [ho2] at hn; cases hn
      · intro W hx
        rw [hbr, hbc]
        refine (HBG hN W hx).mono ?_
        rintro e w' ⟨X, h⟩
        have f1 : fitsB (lowQ m ps / ((ps.length : Int) : Rat)) = true := fits_RB (hSC _ (by omega)) (by omega)
        have f2 : fitsB (highQ m ps / ((ps.length : Int) : Rat)) = true := fits_RB (hSR _ (by omega)) (by omega)
        rcases h with ⟨_, _, rfl⟩ | ⟨hn, _⟩
        · exact ⟨rfl, X⟩
        · rcases hn with hn | hn
          · rw [f1] at hn; cases hn
          · rw [f2] at hn; cases hn
  · have hN : histN m ps = histE m ps := by unfold histN; rw [if_pos he]
    exact avgs_err1 ao bo c d us.length m ps w HV (histE m ps) (by simp [he]) (by simp [he]) (by simp) H0 H1 (HAE _ hN he) (HBE _ hN he) (H4 _ rfl)
end Go.Proofs.YtjnaecicdaiimaaGreatDoor
