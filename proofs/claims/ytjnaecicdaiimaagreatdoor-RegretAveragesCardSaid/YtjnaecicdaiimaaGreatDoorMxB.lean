/- walk: matrix.Apply -/
import Derived.Test.YtjnaecicdaiimaaGreatDoorMxA
import Derived.Test.YtjnaecicdaiimaaGreatDoorRgY
namespace Go.Proofs.YtjnaecicdaiimaaGreatDoor
open Go.RowKit
set_option linter.unusedVariables false

def applyE (m : List (List ByteArray)) (l : List ByteArray) : Int := if matE m ≠ 0 then matE m else if vecE l ≠ 0 then vecE l else if 0 < m.length ∧ wideL m ≠ l.length then 3 else 0
def applyQ (m : List (List ByteArray)) (l : List ByteArray) : List Rat := (numM m).map (dotQ · (l.map ratOf))
theorem matG_vec {n : Nat} : ∀ {m : List (List ByteArray)}, matG n m = 0 → ∀ l ∈ m, l.length = n ∧ vecE l = 0
  | [], _, l, hl => by cases hl
  | r :: t, h, l, hl => by
    rw [matG] at h
    by_cases h1 : r.length = n
    · rw [if_neg (by simpa using h1)] at h
      by_cases h2 : vecE r = 0
      · rw [if_neg (by simpa using h2)] at h
        rcases List.mem_cons.1 hl with rfl | hl
        · exact ⟨h1, h2⟩
        · exact matG_vec h l hl
      · rw [if_pos h2] at h; exact absurd h h2
    · rw [if_pos h1] at h; cases h
/-- what a matrix without fault is -/
theorem matE_zero {m : List (List ByteArray)} (hs : ∀ l ∈ m, ∀ s ∈ l, s.size ≤ 9223372036854775806) (h : matE m = 0) : m.length ≤ 40 ∧ ∀ l ∈ m, l.length = wideL m ∧ l.length ≤ 40 ∧ ∀ s ∈ l, RatOk s ∧ s.size ≤ 9223372036854775806 := by
  unfold matE at h
  by_cases h1 : 40 < m.length
  · rw [if_pos h1] at h; cases h
  · rw [if_neg h1] at h
    refine ⟨by omega, fun l hl => ?_⟩
    obtain ⟨g1, g2⟩ := matG_vec h l hl
    obtain ⟨g3, g4⟩ := vecE_ok (hs l hl) g2
    exact ⟨g1, g3, g4⟩
theorem applyE_zero {m : List (List ByteArray)} {l : List ByteArray} (h : applyE m l = 0) : matE m = 0 ∧ vecE l = 0 ∧ (0 < m.length → wideL m = l.length) := by
  unfold applyE at h
  by_cases h1 : matE m = 0
  · rw [if_neg (by simpa using h1)] at h
    by_cases h2 : vecE l = 0
    · rw [if_neg (by simpa using h2)] at h
      by_cases h3 : 0 < m.length ∧ wideL m ≠ l.length
      · rw [if_pos h3] at h; cases h
      · exact ⟨h1, h2, fun h4 => Classical.byContradiction fun h5 => h3 ⟨h4, h5⟩⟩
    · rw [if_pos h2] at h; exact absurd h h2
  · rw [if_pos h1] at h; exact absurd h h1

set_option maxHeartbeats 1600000 in
set_option maxRecDepth 100000 in
theorem apply_err (v u : Value) (m : List (List ByteArray)) (l : List ByteArray) (w : World) (hv : Rows Value.string w v m) (hu : Strs w u l) (hs : ∀ l ∈ m, ∀ s ∈ l, s.size ≤ 9223372036854775806) (hs2 : ∀ s ∈ l, s.size ≤ 9223372036854775806) (he : applyE m l ≠ 0) :
    Calls Tryz.prog 32 #[v, u] w fun e w' => e = .returned (.tuple #[.slice none 0 0, .int .i64 (applyE m l)]) ∧ Ext w w' := by
  have HC1 := Lib.hid (fun Q hQ => mCheck_any v m w hv hs Q hQ)
  have HC2 := Lib.hid (fun Q W (hx : Ext w W) hQ => checkVec_any u l W (hu.ext hx) hs2 Q hQ)
  obtain ⟨us, hr, hul, hel⟩ := hv
  obtain ⟨ao, c, rfl, _, hlen, _, hc⟩ := hr
  obtain ⟨bo, d, rfl, _, hd⟩ := hu.open
  unfold applyE at *
  by_cases h1 : matE m = 0
  · rw [if_neg (by simpa using h1)] at he ⊢
    have HC1 := Lib.hid (HC1.out 0 h1)
    by_cases h2 : vecE l = 0
    · rw [if_neg (by simpa using h2)] at he ⊢
      have HC2 := Lib.hid (fun W hx => HC2.out 0 W hx h2)
      by_cases h3 : 0 < m.length ∧ wideL m ≠ l.length
      · rw [if_pos h3]
        obtain ⟨u0, e1, _, _⟩ := get_lt (show 0 < us.length by omega)
        obtain ⟨l0, r1, _, _⟩ := get_lt (xs := m) (k := 0) h3.1
        obtain ⟨b, off, rfl, hc1⟩ := hc 0 u0 e1.out
        have hc1 : w.cell? ⟨b, off, none⟩ = some u0 := hc1
        obtain ⟨ao3, c3, rfl, hlen3, _⟩ := (hel 0 u0 l0 e1.out r1.out).open
        have hwl : wideL m = l0.length := by unfold wideL; rw [List.headD_eq_head?_getD, List.head?_eq_getElem?, r1.out]; rfl
        have hn0 : (0 : Int) < (us.length : Int) := by omega
        have hbn : ((l0.length : Int) != (l.length : Int)) = true := by rw [bne_iff_ne, ← hwl]; have := h3.2; omega
        clear hc hd hel hul hs hs2 he h1 h2 h3 r1 hwl hlen3 hu e1
        go_enter Tryz.func32, Tryz.ntmps32
        go_wp2_with fail
        refine HC1.out.mono ?_
        rintro e w1 ⟨rfl, X1⟩
        go_wp2_with fail
        refine (HC2.out _ X1).mono ?_
        rintro e w2 ⟨rfl, X2⟩
        have X := X1.trans X2
        have hcl := X.cell hc1
        go_wp2_with fail
        go_ret2
        exact ⟨rfl, X⟩
      · rw [if_neg h3] at he
        exact absurd rfl he
    · rw [if_pos h2]
      have HC2 := Lib.hid (fun W hx => HC2.out _ W hx rfl)
      generalize vecE l = p at *
      have hb : (p != 0) = true := by simp [h2]
      clear hc hd hel hul hs hs2 he h1 h2 hu
      go_enter Tryz.func32, Tryz.ntmps32
      go_wp2_with fail
      refine HC1.out.mono ?_
      rintro e w1 ⟨rfl, X1⟩
      go_wp2_with fail
      refine (HC2.out _ X1).mono ?_
      rintro e w2 ⟨rfl, X2⟩
      go_wp2_with fail
      go_ret2
      exact ⟨rfl, X1.trans X2⟩
  · rw [if_pos h1]
    have HC1 := Lib.hid (HC1.out _ rfl)
    generalize matE m = p at *
    have hb : (p != 0) = true := by simp [h1]
    clear hc hd hel hul hs hs2 he h1 hu HC2
    go_enter Tryz.func32, Tryz.ntmps32
    go_wp2_with fail
    refine HC1.out.mono ?_
    rintro e w1 ⟨rfl, X1⟩
    go_wp2_with fail
    go_ret2
    exact ⟨rfl, X1⟩

set_option maxHeartbeats 6400000 in
set_option maxRecDepth 100000 in
theorem apply_ok (v u : Value) (m : List (List ByteArray)) (l : List ByteArray) (w : World) (htab : TabPow w) (hv : Rows Value.string w v m) (hu : Strs w u l) (hs : ∀ l ∈ m, ∀ s ∈ l, s.size ≤ 9223372036854775806) (hs2 : ∀ s ∈ l, s.size ≤ 9223372036854775806) (he : applyE m l = 0) :
    Calls Tryz.prog 32 #[v, u] w (VecPost (applyQ m l) w) := by
  obtain ⟨em1, e2, e3⟩ := applyE_zero he
  obtain ⟨hm40, hok1⟩ := matE_zero hs em1
  obtain ⟨hb40, hok2⟩ := vecE_ok hs2 e2
  have HC1 := Lib.hid (mCheck_any v m w hv hs 0 em1)
  have HC2 := Lib.hid (fun W (hx : Ext w W) => checkVec_any u l W (hu.ext hx) hs2 0 e2)
  have HI1 := Lib.hid (fun W (hx : Ext w W) => mIn_any v m W (hv.ext hx) (fun l hl => (hok1 l hl).2.2) (by omega) (fun l hl => by have := (hok1 l hl).2.1; omega))
  have HI2 := Lib.hid (fun W (hx : Ext w W) => ratIn_any u l W (hu.ext hx) hok2 (by omega))
  have hrb : ∀ r ∈ numM m, ∀ q ∈ r, RB 2000 q := numM_RB fun l hl s hs => ratOf_RB2k ((hok1 l hl).2.2 s hs).1
  have hrb2 : ∀ q ∈ l.map ratOf, RB 2000 q := fun q hq => by
    obtain ⟨s, hm, rfl⟩ := List.mem_map.1 hq
    exact ratOf_RB2k (hok2 s hm).1
  have hNL : (numM m).length = m.length := List.length_map ..
  have hRL : ∀ r ∈ numM m, r.length = (l.map ratOf).length ∧ r.length ≤ 40 := fun r hr => by
    unfold numM at hr
    obtain ⟨x, hx, rfl⟩ := List.mem_map.1 hr
    rw [List.length_map, List.length_map]
    have := List.length_pos_of_mem hx
    have := (hok1 x hx).1
    have := (hok1 x hx).2.1
    have := e3 (by omega)
    exact ⟨by omega, by omega⟩
  have HD := Lib.hid (fun (x y : Value) (r : List Rat) W (hr : r ∈ numM m) (hx : QsV W x r) (hy : QsV W y (l.map ratOf)) => dotOf_any x y r _ 2000 2000 W hx hy (by rw [(hRL r hr).1]; omega) (hrb r hr) hrb2 (by have := (hRL r hr).2; omega))
  have HOA := Lib.hid (fun (x : Value) W (hx : Ext w W) h => outAll_any x (applyQ m l) W (tabPow_ext htab hx) h (by unfold applyQ; rw [List.length_map, hNL]; omega))
  have HYL : Hid ((applyQ m l).length = (numM m).length) := by show _ = _; unfold applyQ; rw [List.length_map]
  have HYG : Hid (∀ (i : Nat) r, (numM m)[i]? = some r → (applyQ m l)[i]? = some (dotQ r (l.map ratOf))) := fun i r h => by unfold applyQ; rw [List.getElem?_map, h]; rfl
  unfold VecPost
  rw [show m.map (·.map ratOf) = numM m from rfl] at HI1
  generalize applyQ m l = ys at *
  generalize numM m = MR at *
  generalize l.map ratOf = rs at *
  obtain ⟨us, hr, hul, hel⟩ := hv
  obtain ⟨ao, c, rfl, _, hlen, _, hc⟩ := hr
  obtain ⟨bo, d, rfl, _, hd⟩ := hu.open
  have HNL := Lib.hid (show MR.length ≤ 40 by omega)
  by_cases h0 : 0 < m.length
  · obtain ⟨u0, e1, _, _⟩ := get_lt (show 0 < us.length by omega)
    obtain ⟨l0, r1, _, _⟩ := get_lt (xs := m) (k := 0) h0
    obtain ⟨b, off, rfl, hc1⟩ := hc 0 u0 e1.out
    have hc1 : w.cell? ⟨b, off, none⟩ = some u0 := hc1
    obtain ⟨ao3, c3, rfl, hlen3, _⟩ := (hel 0 u0 l0 e1.out r1.out).open
    have hwl : wideL m = l0.length := by unfold wideL; rw [List.headD_eq_head?_getD, List.head?_eq_getElem?, r1.out]; rfl
    have hn0 : (0 : Int) < (us.length : Int) := by omega
    have hbn : ((l0.length : Int) != (l.length : Int)) = false := by rw [bne_eq_false_iff_eq, ← hwl, e3 h0]
    clear hc hd hel hul hs hs2 he e2 e3 h0 r1 hwl hlen3 hu e1 em1 hok1 hok2 hrb hrb2 hRL hm40 hb40 hNL htab
    go_enter Tryz.func32, Tryz.ntmps32
    go_wp2_with fail
    refine HC1.out.mono ?_
    rintro e w1 ⟨rfl, X1⟩
    go_wp2_with fail
    refine (HC2.out _ X1).mono ?_
    rintro e w2 ⟨rfl, X2⟩
    have X := X1.trans X2
    have hcl := X.cell hc1
    clear hc1 X1 X2 HC1 HC2
    go_wp2_with fail
    refine (HI2.out _ X).mono ?_
    rintro e w3 ⟨u3, rfl, h3, _, X3⟩
    have H3 := Lib.hid h3
    obtain ⟨bo4, d4, rfl, _, _⟩ := h3.opn
    have XA := X.trans X3
    clear h3
    go_wp2_with fail
    refine (HI1.out _ XA).mono ?_
    rintro e w4 ⟨x4, rfl, hX, X4⟩
    have XB := XA.trans X4
    have H4 := Lib.hid (H3.out.ext X4)
    obtain ⟨us3, hr3, hul3, hel3⟩ := hX
    obtain ⟨ao8, c8, rfl, _, hlen8, _, hc8⟩ := hr3
    have HC3 := Lib.hid hc8
    have HEL3 := Lib.hid hel3
    have HUL3 := Lib.hid hul3
    have hl3 : us3.length ≤ 40 := by have := HNL.out; omega
    have HDO1 := Lib.hid (fun (i : Nat) (x : Value) (r : List Rat) W (g1 : us3[i]? = some x) (g2 : MR[i]? = some r) (hx : Ext w4 W) => HD.out x _ r W (List.mem_of_getElem? g2) ((hel3 i x r g1 g2).ext hx) (H4.out.ext hx))
    clear hc8 hel3 hul3 H3 H4 X3 XA X HI1 HI2 HD
    go_wp2_with fail
    go_loopw [8, 39] (fun ov iv wr => ∃ (i : Nat), i ≤ us3.length ∧ iv = .int .i64 i ∧ Hid (QsO wr w4.heap.size ov (ys.take i)) ∧ Ext w4 wr) (fun _ iv _ => us3.length - (intOf iv).toNat)
    case atStart => exact ⟨0, Nat.zero_le _, rfl, QsO.nil _ _, Ext.refl _⟩
    case round =>
      obtain ⟨i, hi, rfl, HO, X⟩ := hrel
      by_cases hlt : i < us3.length
      · obtain ⟨u, d1, d2, d3⟩ := get_lt hlt
        obtain ⟨qs, q1, q2, q3⟩ := get_lt (xs := MR) (k := i) (by rw [← HUL3.out]; exact hlt)
        obtain ⟨b3, off3, rfl, hc0⟩ := HC3.out.ext X i u d1.out
        have hcell : wr.cell? ⟨b3, off3 + i, none⟩ = some u := hc0
        have HDO := Lib.hid (fun W (hx : Ext w4 W) => HDO1.out i u qs W d1.out q1.out hx)
        obtain ⟨ao6, c6, rfl, _, _⟩ := (HEL3.out i u qs d1.out q1.out).opn
        have hki : (i : Int) < (us3.length : Int) := by omega
        have HTJ : Hid (ys.take (i + 1) = ys.take i ++ [dotQ qs rs]) := by
          show _ = _
          obtain ⟨h2, h3⟩ := List.getElem?_eq_some_iff.1 (HYG.out i qs q1.out)
          rw [List.take_succ_eq_append_getElem h2, h3]
        have HTL : Hid ((ys.take i).length ≤ 1000000) := by show _ ≤ _; rw [List.length_take]; omega
        generalize ys.take i = Y1 at *
        clear hc0 hlt
        go_wp2_with fail
        refine (HDO.out _ X).mono ?_
        rintro e w9 ⟨u9, rfl, h9, X9⟩
        obtain ⟨s5, ao5, l5, c5, bo5, m5, d5, rfl, _, _, _⟩ := h9.opn
        have HO4 := HO.out.ext X9
        have XA := X.trans X9
        have hsz := XA.size
        clear HO
        go_wp2_with (at_builtin; refine wp_appQ (sl := .tmp 43) (x := .tmp 47) rfl rfl HO4 h9 rfl rfl rfl HTL.out hsz ?_; intro v' w' hown hgrew hclean)
        have HE := Lib.hid (QsO.grew HO4 hgrew XA (Nat.le_refl _))
        rw [← HTJ.out] at hown
        have HOW := Lib.hid hown
        go_roundw
        case rel => exact ⟨i + 1, by omega, by go_num, HOW, HE.out⟩
        case measure => simp [intOf] <;> omega
      · have hil : us3.length = i := by omega
        have hmm : ys.take i = ys := by rw [← hil, HUL3.out, ← HYL.out]; exact List.take_length
        have HR0 := HO.out
        rw [hmm] at HR0
        have HROW := Lib.hid HR0
        have X5 := X
        clear hmm HO HR0 hil X
        go_wp2_with fail
        have HZ1 := Lib.hid (HROW.out.toV (by have := HYL.out; have := HNL.out; omega))
        refine (HOA.out _ _ (XB.trans X5) HZ1.out).mono ?_
        rintro e w9 ⟨X9, h9⟩
        have XZ := (XB.trans X5).trans X9
        rcases h9 with ⟨hn, rfl⟩ | ⟨os, u1, hn, rfl, hst1⟩
        · go_wp2_with fail
          go_ret2
          exact ⟨XZ, .inl ⟨hn, rfl⟩⟩
        · obtain ⟨ao1, c1, rfl, _, _⟩ := hst1.open
          have H1 := Lib.hid hst1
          clear hst1
          go_wp2_with fail
          go_ret2
          exact ⟨XZ, .inr ⟨os, _, hn, rfl, H1.out⟩⟩
  · have hz : us = [] := List.length_eq_zero_iff.1 (by omega)
    subst hz
    simp only [List.length_nil] at HC1 HI1 ⊢
    clear hc hd hel hul hs hs2 he em1 e2 e3 h0 hu hok1 hok2 hrb hrb2 hRL hm40 hb40 hNL htab
    go_enter Tryz.func32, Tryz.ntmps32
    go_wp2_with fail
    refine HC1.out.mono ?_
    rintro e w1 ⟨rfl, X1⟩
    go_wp2_with fail
    refine (HC2.out _ X1).mono ?_
    rintro e w2 ⟨rfl, X2⟩
    have X := X1.trans X2
    clear X1 X2 HC1 HC2
    go_wp2_with fail
    refine (HI2.out _ X).mono ?_
    rintro e w3 ⟨u3, rfl, h3, _, X3⟩
    have H3 := Lib.hid h3
    obtain ⟨bo4, d4, rfl, _, _⟩ := h3.opn
    have XA := X.trans X3
    clear h3
    go_wp2_with fail
    refine (HI1.out _ XA).mono ?_
    rintro e w4 ⟨x4, rfl, hX, X4⟩
    have XB := XA.trans X4
    have H4 := Lib.hid (H3.out.ext X4)
    obtain ⟨us3, hr3, hul3, hel3⟩ := hX
    obtain ⟨ao8, c8, rfl, _, hlen8, _, hc8⟩ := hr3
    have HC3 := Lib.hid hc8
    have HEL3 := Lib.hid hel3
    have HUL3 := Lib.hid hul3
    have hl3 : us3.length ≤ 40 := by have := HNL.out; omega
    have HDO1 := Lib.hid (fun (i : Nat) (x : Value) (r : List Rat) W (g1 : us3[i]? = some x) (g2 : MR[i]? = some r) (hx : Ext w4 W) => HD.out x _ r W (List.mem_of_getElem? g2) ((hel3 i x r g1 g2).ext hx) (H4.out.ext hx))
    clear hc8 hel3 hul3 H3 H4 X3 XA X HI1 HI2 HD
    go_wp2_with fail
    go_loopw [8, 39] (fun ov iv wr => ∃ (i : Nat), i ≤ us3.length ∧ iv = .int .i64 i ∧ Hid (QsO wr w4.heap.size ov (ys.take i)) ∧ Ext w4 wr) (fun _ iv _ => us3.length - (intOf iv).toNat)
    case atStart => exact ⟨0, Nat.zero_le _, rfl, QsO.nil _ _, Ext.refl _⟩
    case round =>
      obtain ⟨i, hi, rfl, HO, X⟩ := hrel
      by_cases hlt : i < us3.length
      · obtain ⟨u, d1, d2, d3⟩ := get_lt hlt
        obtain ⟨qs, q1, q2, q3⟩ := get_lt (xs := MR) (k := i) (by rw [← HUL3.out]; exact hlt)
        obtain ⟨b3, off3, rfl, hc0⟩ := HC3.out.ext X i u d1.out
        have hcell : wr.cell? ⟨b3, off3 + i, none⟩ = some u := hc0
        have HDO := Lib.hid (fun W (hx : Ext w4 W) => HDO1.out i u qs W d1.out q1.out hx)
        obtain ⟨ao6, c6, rfl, _, _⟩ := (HEL3.out i u qs d1.out q1.out).opn
        have hki : (i : Int) < (us3.length : Int) := by omega
        have HTJ : Hid (ys.take (i + 1) = ys.take i ++ [dotQ qs rs]) := by
          show _ = _
          obtain ⟨h2, h3⟩ := List.getElem?_eq_some_iff.1 (HYG.out i qs q1.out)
          rw [List.take_succ_eq_append_getElem h2, h3]
        have HTL : Hid ((ys.take i).length ≤ 1000000) := by show _ ≤ _; rw [List.length_take]; omega
        generalize ys.take i = Y1 at *
        clear hc0 hlt
        go_wp2_with fail
        refine (HDO.out _ X).mono ?_
        rintro e w9 ⟨u9, rfl, h9, X9⟩
        obtain ⟨s5, ao5, l5, c5, bo5, m5, d5, rfl, _, _, _⟩ := h9.opn
        have HO4 := HO.out.ext X9
        have XA := X.trans X9
        have hsz := XA.size
        clear HO
        go_wp2_with (at_builtin; refine wp_appQ (sl := .tmp 43) (x := .tmp 47) rfl rfl HO4 h9 rfl rfl rfl HTL.out hsz ?_; intro v' w' hown hgrew hclean)
        have HE := Lib.hid (QsO.grew HO4 hgrew XA (Nat.le_refl _))
        rw [← HTJ.out] at hown
        have HOW := Lib.hid hown
        go_roundw
        case rel => exact ⟨i + 1, by omega, by go_num, HOW, HE.out⟩
        case measure => simp [intOf] <;> omega
      · have hil : us3.length = i := by omega
        have hmm : ys.take i = ys := by rw [← hil, HUL3.out, ← HYL.out]; exact List.take_length
        have HR0 := HO.out
        rw [hmm] at HR0
        have HROW := Lib.hid HR0
        have X5 := X
        clear hmm HO HR0 hil X
        go_wp2_with fail
        have HZ1 := Lib.hid (HROW.out.toV (by have := HYL.out; have := HNL.out; omega))
        refine (HOA.out _ _ (XB.trans X5) HZ1.out).mono ?_
        rintro e w9 ⟨X9, h9⟩
        have XZ := (XB.trans X5).trans X9
        rcases h9 with ⟨hn, rfl⟩ | ⟨os, u1, hn, rfl, hst1⟩
        · go_wp2_with fail
          go_ret2
          exact ⟨XZ, .inl ⟨hn, rfl⟩⟩
        · obtain ⟨ao1, c1, rfl, _, _⟩ := hst1.open
          have H1 := Lib.hid hst1
          clear hst1
          go_wp2_with fail
          go_ret2
          exact ⟨XZ, .inr ⟨os, _, hn, rfl, H1.out⟩⟩
end Go.Proofs.YtjnaecicdaiimaaGreatDoor
