/- texts merged: MxA MxB MxC MxD MxE MxF MxG MxH RxA -/
import Derived.Test.YtnfmknjhkpgppaaGreatDoorRgY
import Derived.Test.YtnfmknjhkpgppaaGreatDoorRtB
import Derived.Test.YtnfmknjhkpgppaaGreatDoorRgBQ
/- walks: matrix.Dot, Apply -/
namespace Go.Proofs.YtnfmknjhkpgppaaGreatDoor
open Go.RowKit
set_option linter.unusedVariables false

def dotE (a b : List ByteArray) : Int := if vecE a ≠ 0 then vecE a else if vecE b ≠ 0 then vecE b else if a.length ≠ b.length then 3 else 0
theorem vecE_ok {l : List ByteArray} (hs : ∀ s ∈ l, s.size ≤ 9223372036854775806) (h : vecE l = 0) : l.length ≤ 40 ∧ ∀ s ∈ l, RatOk s ∧ s.size ≤ 9223372036854775806 := by
  unfold vecE at h
  by_cases h1 : 40 < l.length
  · rw [if_pos h1] at h; cases h
  · rw [if_neg h1] at h
    exact ⟨by omega, fun s hm => ⟨ratErr_ok (errsL_zero h s hm), hs s hm⟩⟩
theorem dotE_zero {a b : List ByteArray} (h : dotE a b = 0) : vecE a = 0 ∧ vecE b = 0 ∧ a.length = b.length := by
  unfold dotE at h
  by_cases h1 : vecE a = 0
  · rw [if_neg (by simpa using h1)] at h
    by_cases h2 : vecE b = 0
    · rw [if_neg (by simpa using h2)] at h
      by_cases h3 : a.length = b.length
      · exact ⟨h1, h2, h3⟩
      · rw [if_pos h3] at h; cases h
    · rw [if_pos h2] at h; exact absurd h h2
  · rw [if_pos h1] at h; exact absurd h h1

theorem ix_vec0 (x y : Value) (W : World) : (Instr.index 88 (.agg #[x, y]) (.int .i64 0)).run Tryz.prog W = .ok x W := by
  have a3 := Tryz.isAgg25
  have z3 := Tryz.sizeOf25
  simp [Instr.index, run_underlying Tryz.underlying88, asIntOf, go_sem, a3, z3]
theorem ix_vec1 (x y : Value) (W : World) : (Instr.index 88 (.agg #[x, y]) (.int .i64 1)).run Tryz.prog W = .ok y W := by
  have a3 := Tryz.isAgg25
  have z3 := Tryz.sizeOf25
  simp [Instr.index, run_underlying Tryz.underlying88, asIntOf, go_sem, a3, z3]

set_option maxHeartbeats 3200000 in
set_option maxRecDepth 100000 in
theorem mDot_ok (u v : Value) (a b : List ByteArray) (w : World) (htab : TabPow w) (hu : Strs w u a) (hv : Strs w v b) (hs : ∀ s ∈ a, s.size ≤ 9223372036854775806) (hs2 : ∀ s ∈ b, s.size ≤ 9223372036854775806) (he : dotE a b = 0) :
    Calls Tryz.prog 16 #[u, v] w fun e w' => e = .returned (.tuple #[.string (outF (dotQ (a.map ratOf) (b.map ratOf))).1, .int .i64 (outF (dotQ (a.map ratOf) (b.map ratOf))).2]) ∧ Ext w w' := by
  obtain ⟨e1, e2, e3⟩ := dotE_zero he
  obtain ⟨ha40, hok1⟩ := vecE_ok hs e1
  obtain ⟨hb40, hok2⟩ := vecE_ok hs2 e2
  have HC1 := Lib.hid (fun W (hx : Ext w W) => checkVec_any u a W (hu.ext hx) hs 0 e1)
  have HC2 := Lib.hid (fun W (hx : Ext w W) => checkVec_any v b W (hv.ext hx) hs2 0 e2)
  have HI1 := Lib.hid (fun W (hx : Ext w W) => ratIn_any u a W (hu.ext hx) hok1 (by omega))
  have HI2 := Lib.hid (fun W (hx : Ext w W) => ratIn_any v b W (hv.ext hx) hok2 (by omega))
  have hr1 : ∀ q ∈ a.map ratOf, RB 2000 q := fun q hq => by
    obtain ⟨s, hm, rfl⟩ := List.mem_map.1 hq
    exact ratOf_RB2k (hok1 s hm).1
  have hr2 : ∀ q ∈ b.map ratOf, RB 2000 q := fun q hq => by
    obtain ⟨s, hm, rfl⟩ := List.mem_map.1 hq
    exact ratOf_RB2k (hok2 s hm).1
  have HDO := Lib.hid (fun (x y : Value) W hx hy => dotOf_any x y (a.map ratOf) (b.map ratOf) 2000 2000 W hx hy (by rw [List.length_map, List.length_map]; omega) hr1 hr2 (by rw [List.length_map]; omega))
  have HOU := Lib.hid (fun (x : Value) W (hx : Ext w W) h => out_any x (dotQ (a.map ratOf) (b.map ratOf)) W h (tabPow_ext htab hx))
  obtain ⟨ao, c, rfl, _, hc⟩ := hu.open
  obtain ⟨bo, d, rfl, _, hd⟩ := hv.open
  have hb : ((a.length : Int) != (b.length : Int)) = false := by rw [bne_eq_false_iff_eq]; omega
  generalize dotQ (a.map ratOf) (b.map ratOf) = R at *
  generalize a.map ratOf = qs at *
  generalize b.map ratOf = rs at *
  obtain ⟨⟨o1, o2⟩, hRR⟩ : ∃ R2, outF R = R2 := ⟨_, rfl⟩
  rw [hRR] at HOU ⊢
  clear hc hd hu hv hs hs2 he e1 e2 e3 hok1 hok2 hr1 hr2 htab ha40 hb40 hRR
  go_enter Tryz.func16, Tryz.ntmps16
  go_wp2_with fail
  go_loopw [12] (fun iv wr => ∃ (i : Nat), i ≤ 2 ∧ iv = .int .i64 i ∧ Ext w wr) (fun iv _ => 2 - (intOf iv).toNat)
  case atStart => exact ⟨0, by omega, rfl, Ext.refl _⟩
  case round =>
    obtain ⟨i, hi, rfl, X⟩ := hrel
    rcases (show i = 0 ∨ i = 1 ∨ i = 2 by omega) with rfl | rfl | rfl
    · go_wp2_with fail
      rw [ix_vec0]
      go_wp2_with fail
      refine (HC1.out _ X).mono ?_
      rintro e w2 ⟨rfl, X2⟩
      go_wp2_with fail
      go_roundw
      case rel => exact ⟨1, by omega, rfl, X.trans X2⟩
      case measure => simp [intOf]
    · go_wp2_with fail
      rw [ix_vec1]
      go_wp2_with fail
      refine (HC2.out _ X).mono ?_
      rintro e w2 ⟨rfl, X2⟩
      go_wp2_with fail
      go_roundw
      case rel => exact ⟨2, by omega, rfl, X.trans X2⟩
      case measure => simp [intOf]
    · go_wp2_with fail
      refine (HI1.out _ X).mono ?_
      rintro e w2 ⟨u2, rfl, h2, _, X2⟩
      have H2 := Lib.hid h2
      obtain ⟨ao2, c2, rfl, _, hx2⟩ := h2.opn
      have XA := X.trans X2
      clear hx2
      go_wp2_with fail
      refine (HI2.out _ XA).mono ?_
      rintro e w3 ⟨u3, rfl, h3, _, X3⟩
      have H3 := Lib.hid h3
      obtain ⟨ao3, c3, rfl, _, hx3⟩ := h3.opn
      have XB := XA.trans X3
      clear hx3
      go_wp2_with fail
      refine (HDO.out _ _ _ (by exact H2.out.ext X3) (by exact H3.out)).mono ?_
      rintro e w4 ⟨u4, rfl, h4, X4⟩
      obtain ⟨s5, ao5, l5, c5, bo5, m5, d5, rfl, _, _, _⟩ := h4.opn
      have H4 := Lib.hid h4
      have XC := XB.trans X4
      clear h4
      go_wp2_with fail
      refine (HOU.out _ _ XC (by exact H4.out)).mono ?_
      rintro e w6 ⟨rfl, X6⟩
      go_wp2_with fail
      go_ret2
      exact ⟨rfl, XC.trans X6⟩
end Go.Proofs.YtnfmknjhkpgppaaGreatDoor
/- walk: matrix.Apply -/
namespace Go.Proofs.YtnfmknjhkpgppaaGreatDoor
open Go.RowKit
set_option linter.unusedVariables false

def applyE (m : List (List ByteArray)) (l : List ByteArray) : Int := if matE m ≠ 0 then matE m else if vecE l ≠ 0 then vecE l else if 0 < m.length ∧ wideL m ≠ l.length then 3 else 0
def applyQ (m : List (List ByteArray)) (l : List ByteArray) : List Rat := (numM m).map (dotQ · (l.map ratOf))
theorem matG_vec {n : Nat} : ∀ {m : List (List ByteArray)}, matG n m = 0 → ∀ l ∈ m, l.length = n ∧ vecE l = 0
  | [], _, l, hl => by cases hl
  | r :: t, h, l, hl => by
    rw [matG] at h
    by_cases h1 : r.length = n
    · rw [if_neg (by simpa using h1)] at h
      by_cases h2 : vecE r = 0
      · rw [if_neg (by simpa using h2)] at h
        rcases List.mem_cons.1 hl with rfl | hl
        · exact ⟨h1, h2⟩
        · exact matG_vec h l hl
      · rw [if_pos h2] at h; exact absurd h h2
    · rw [if_pos h1] at h; cases h
/-- what a matrix without fault is -/
theorem matE_zero {m : List (List ByteArray)} (hs : ∀ l ∈ m, ∀ s ∈ l, s.size ≤ 9223372036854775806) (h : matE m = 0) : m.length ≤ 40 ∧ ∀ l ∈ m, l.length = wideL m ∧ l.length ≤ 40 ∧ ∀ s ∈ l, RatOk s ∧ s.size ≤ 9223372036854775806 := by
  unfold matE at h
  by_cases h1 : 40 < m.length
  · rw [if_pos h1] at h; cases h
  · rw [if_neg h1] at h
    refine ⟨by omega, fun l hl => ?_⟩
    obtain ⟨g1, g2⟩ := matG_vec h l hl
    obtain ⟨g3, g4⟩ := vecE_ok (hs l hl) g2
    exact ⟨g1, g3, g4⟩
theorem applyE_zero {m : List (List ByteArray)} {l : List ByteArray} (h : applyE m l = 0) : matE m = 0 ∧ vecE l = 0 ∧ (0 < m.length → wideL m = l.length) := by
  unfold applyE at h
  by_cases h1 : matE m = 0
  · rw [if_neg (by simpa using h1)] at h
    by_cases h2 : vecE l = 0
    · rw [if_neg (by simpa using h2)] at h
      by_cases h3 : 0 < m.length ∧ wideL m ≠ l.length
      · rw [if_pos h3] at h; cases h
      · exact ⟨h1, h2, fun h4 => Classical.byContradiction fun h5 => h3 ⟨h4, h5⟩⟩
    · rw [if_pos h2] at h; exact absurd h h2
  · rw [if_pos h1] at h; exact absurd h h1

set_option maxHeartbeats 6400000 in
set_option maxRecDepth 100000 in
theorem apply_ok (v u : Value) (m : List (List ByteArray)) (l : List ByteArray) (w : World) (htab : TabPow w) (hv : Rows Value.string w v m) (hu : Strs w u l) (hs : ∀ l ∈ m, ∀ s ∈ l, s.size ≤ 9223372036854775806) (hs2 : ∀ s ∈ l, s.size ≤ 9223372036854775806) (he : applyE m l = 0) :
    Calls Tryz.prog 17 #[v, u] w (VecPost (applyQ m l) w) := by
  obtain ⟨em1, e2, e3⟩ := applyE_zero he
  obtain ⟨hm40, hok1⟩ := matE_zero hs em1
  obtain ⟨hb40, hok2⟩ := vecE_ok hs2 e2
  have HC1 := Lib.hid (mCheck_any v m w hv hs 0 em1)
  have HC2 := Lib.hid (fun W (hx : Ext w W) => checkVec_any u l W (hu.ext hx) hs2 0 e2)
  have HI1 := Lib.hid (fun W (hx : Ext w W) => mIn_any v m W (hv.ext hx) (fun l hl => (hok1 l hl).2.2) (by omega) (fun l hl => by have := (hok1 l hl).2.1; omega))
  have HI2 := Lib.hid (fun W (hx : Ext w W) => ratIn_any u l W (hu.ext hx) hok2 (by omega))
  have hrb : ∀ r ∈ numM m, ∀ q ∈ r, RB 2000 q := numM_RB fun l hl s hs => ratOf_RB2k ((hok1 l hl).2.2 s hs).1
  have hrb2 : ∀ q ∈ l.map ratOf, RB 2000 q := fun q hq => by
    obtain ⟨s, hm, rfl⟩ := List.mem_map.1 hq
    exact ratOf_RB2k (hok2 s hm).1
  have hNL : (numM m).length = m.length := List.length_map ..
  have hRL : ∀ r ∈ numM m, r.length = (l.map ratOf).length ∧ r.length ≤ 40 := fun r hr => by
    unfold numM at hr
    obtain ⟨x, hx, rfl⟩ := List.mem_map.1 hr
    rw [List.length_map, List.length_map]
    have := List.length_pos_of_mem hx
    have := (hok1 x hx).1
    have := (hok1 x hx).2.1
    have := e3 (by omega)
    exact ⟨by omega, by omega⟩
  have HD := Lib.hid (fun (x y : Value) (r : List Rat) W (hr : r ∈ numM m) (hx : QsV W x r) (hy : QsV W y (l.map ratOf)) => dotOf_any x y r _ 2000 2000 W hx hy (by rw [(hRL r hr).1]; omega) (hrb r hr) hrb2 (by have := (hRL r hr).2; omega))
  have HOA := Lib.hid (fun (x : Value) W (hx : Ext w W) h => outAll_any x (applyQ m l) W (tabPow_ext htab hx) h (by unfold applyQ; rw [List.length_map, hNL]; omega))
  have HYL : Hid ((applyQ m l).length = (numM m).length) := by show _ = _; unfold applyQ; rw [List.length_map]
  have HYG : Hid (∀ (i : Nat) r, (numM m)[i]? = some r → (applyQ m l)[i]? = some (dotQ r (l.map ratOf))) := fun i r h => by unfold applyQ; rw [List.getElem?_map, h]; rfl
  unfold VecPost
  rw [show m.map (·.map ratOf) = numM m from rfl] at HI1
  generalize applyQ m l = ys at *
  generalize numM m = MR at *
  generalize l.map ratOf = rs at *
  obtain ⟨us, hr, hul, hel⟩ := hv
  obtain ⟨ao, c, rfl, _, hlen, _, hc⟩ := hr
  obtain ⟨bo, d, rfl, _, hd⟩ := hu.open
  have HNL := Lib.hid (show MR.length ≤ 40 by omega)
  by_cases h0 : 0 < m.length
  · obtain ⟨u0, e1, _, _⟩ := get_lt (show 0 < us.length by omega)
    obtain ⟨l0, r1, _, _⟩ := get_lt (xs := m) (k := 0) h0
    obtain ⟨b, off, rfl, hc1⟩ := hc 0 u0 e1.out
    have hc1 : w.cell? ⟨b, off, none⟩ = some u0 := hc1
    obtain ⟨ao3, c3, rfl, hlen3, _⟩ := (hel 0 u0 l0 e1.out r1.out).open
    have hwl : wideL m = l0.length := by unfold wideL; rw [List.headD_eq_head?_getD, List.head?_eq_getElem?, r1.out]; rfl
    have hn0 : (0 : Int) < (us.length : Int) := by omega
    have hbn : ((l0.length : Int) != (l.length : Int)) = false := by rw [bne_eq_false_iff_eq, ← hwl, e3 h0]
    clear hc hd hel hul hs hs2 he e2 e3 h0 r1 hwl hlen3 hu e1 em1 hok1 hok2 hrb hrb2 hRL hm40 hb40 hNL htab
    go_enter Tryz.func17, Tryz.ntmps17
    go_wp2_with fail
    refine HC1.out.mono ?_
    rintro e w1 ⟨rfl, X1⟩
    go_wp2_with fail
    refine (HC2.out _ X1).mono ?_
    rintro e w2 ⟨rfl, X2⟩
    have X := X1.trans X2
    have hcl := X.cell hc1
    clear hc1 X1 X2 HC1 HC2
    go_wp2_with fail
    refine (HI2.out _ X).mono ?_
    rintro e w3 ⟨u3, rfl, h3, _, X3⟩
    have H3 := Lib.hid h3
    obtain ⟨bo4, d4, rfl, _, _⟩ := h3.opn
    have XA := X.trans X3
    clear h3
    go_wp2_with fail
    refine (HI1.out _ XA).mono ?_
    rintro e w4 ⟨x4, rfl, hX, X4⟩
    have XB := XA.trans X4
    have H4 := Lib.hid (H3.out.ext X4)
    obtain ⟨us3, hr3, hul3, hel3⟩ := hX
    obtain ⟨ao8, c8, rfl, _, hlen8, _, hc8⟩ := hr3
    have HC3 := Lib.hid hc8
    have HEL3 := Lib.hid hel3
    have HUL3 := Lib.hid hul3
    have hl3 : us3.length ≤ 40 := by have := HNL.out; omega
    have HDO1 := Lib.hid (fun (i : Nat) (x : Value) (r : List Rat) W (g1 : us3[i]? = some x) (g2 : MR[i]? = some r) (hx : Ext w4 W) => HD.out x _ r W (List.mem_of_getElem? g2) ((hel3 i x r g1 g2).ext hx) (H4.out.ext hx))
    clear hc8 hel3 hul3 H3 H4 X3 XA X HI1 HI2 HD
    go_wp2_with fail
    go_loopw [8, 39] (fun ov iv wr => ∃ (i : Nat), i ≤ us3.length ∧ iv = .int .i64 i ∧ Hid (QsO wr w4.heap.size ov (ys.take i)) ∧ Ext w4 wr) (fun _ iv _ => us3.length - (intOf iv).toNat)
    case atStart => exact ⟨0, Nat.zero_le _, rfl, QsO.nil _ _, Ext.refl _⟩
    case round =>
      obtain ⟨i, hi, rfl, HO, X⟩ := hrel
      by_cases hlt : i < us3.length
      · obtain ⟨u, d1, d2, d3⟩ := get_lt hlt
        obtain ⟨qs, q1, q2, q3⟩ := get_lt (xs := MR) (k := i) (by rw [← HUL3.out]; exact hlt)
        obtain ⟨b3, off3, rfl, hc0⟩ := HC3.out.ext X i u d1.out
        have hcell : wr.cell? ⟨b3, off3 + i, none⟩ = some u := hc0
        have HDO := Lib.hid (fun W (hx : Ext w4 W) => HDO1.out i u qs W d1.out q1.out hx)
        obtain ⟨ao6, c6, rfl, _, _⟩ := (HEL3.out i u qs d1.out q1.out).opn
        have hki : (i : Int) < (us3.length : Int) := by omega
        have HTJ : Hid (ys.take (i + 1) = ys.take i ++ [dotQ qs rs]) := by
          show _ = _
          obtain ⟨h2, h3⟩ := List.getElem?_eq_some_iff.1 (HYG.out i qs q1.out)
          rw [List.take_succ_eq_append_getElem h2, h3]
        have HTL : Hid ((ys.take i).length ≤ 1000000) := by show _ ≤ _; rw [List.length_take]; omega
        generalize ys.take i = Y1 at *
        clear hc0 hlt
        go_wp2_with fail
        refine (HDO.out _ X).mono ?_
        rintro e w9 ⟨u9, rfl, h9, X9⟩
        obtain ⟨s5, ao5, l5, c5, bo5, m5, d5, rfl, _, _, _⟩ := h9.opn
        have HO4 := HO.out.ext X9
        have XA := X.trans X9
        have hsz := XA.size
        clear HO
        go_wp2_with (at_builtin; refine wp_appQ (sl := .tmp 43) (x := .tmp 47) rfl rfl HO4 h9 rfl rfl rfl HTL.out hsz ?_; intro v' w' hown hgrew hclean)
        have HE := Lib.hid (QsO.grew HO4 hgrew XA (Nat.le_refl _))
        rw [← HTJ.out] at hown
        have HOW := Lib.hid hown
        go_roundw
        case rel => exact ⟨i + 1, by omega, by go_num, HOW, HE.out⟩
        case measure => simp [intOf] <;> omega
      · have hil : us3.length = i := by omega
        have hmm : ys.take i = ys := by rw [← hil, HUL3.out, ← HYL.out]; exact List.take_length
        have HR0 := HO.out
        rw [hmm] at HR0
        have HROW := Lib.hid HR0
        have X5 := X
        clear hmm HO HR0 hil X
        go_wp2_with fail
        have HZ1 := Lib.hid (HROW.out.toV (by have := HYL.out; have := HNL.out; omega))
        refine (HOA.out _ _ (XB.trans X5) HZ1.out).mono ?_
        rintro e w9 ⟨X9, h9⟩
        have XZ := (XB.trans X5).trans X9
        rcases h9 with ⟨hn, rfl⟩ | ⟨os, u1, hn, rfl, hst1⟩
        · go_wp2_with fail
          go_ret2
          exact ⟨XZ, .inl ⟨hn, rfl⟩⟩
        · obtain ⟨ao1, c1, rfl, _, _⟩ := hst1.open
          have H1 := Lib.hid hst1
          clear hst1
          go_wp2_with fail
          go_ret2
          exact ⟨XZ, .inr ⟨os, _, hn, rfl, H1.out⟩⟩
  · have hz : us = [] := List.length_eq_zero_iff.1 (by omega)
    subst hz
    simp only [List.length_nil] at HC1 HI1 ⊢
    clear hc hd hel hul hs hs2 he em1 e2 e3 h0 hu hok1 hok2 hrb hrb2 hRL hm40 hb40 hNL htab
    go_enter Tryz.func17, Tryz.ntmps17
    go_wp2_with fail
    refine HC1.out.mono ?_
    rintro e w1 ⟨rfl, X1⟩
    go_wp2_with fail
    refine (HC2.out _ X1).mono ?_
    rintro e w2 ⟨rfl, X2⟩
    have X := X1.trans X2
    clear X1 X2 HC1 HC2
    go_wp2_with fail
    refine (HI2.out _ X).mono ?_
    rintro e w3 ⟨u3, rfl, h3, _, X3⟩
    have H3 := Lib.hid h3
    obtain ⟨bo4, d4, rfl, _, _⟩ := h3.opn
    have XA := X.trans X3
    clear h3
    go_wp2_with fail
    refine (HI1.out _ XA).mono ?_
    rintro e w4 ⟨x4, rfl, hX, X4⟩
    have XB := XA.trans X4
    have H4 := Lib.hid (H3.out.ext X4)
    obtain ⟨us3, hr3, hul3, hel3⟩ := hX
    obtain ⟨ao8, c8, rfl, _, hlen8, _, hc8⟩ := hr3
    have HC3 := Lib.hid hc8
    have HEL3 := Lib.hid hel3
    have HUL3 := Lib.hid hul3
    have hl3 : us3.length ≤ 40 := by have := HNL.out; omega
    have HDO1 := Lib.hid (fun (i : Nat) (x : Value) (r : List Rat) W (g1 : us3[i]? = some x) (g2 : MR[i]? = some r) (hx : Ext w4 W) => HD.out x _ r W (List.mem_of_getElem? g2) ((hel3 i x r g1 g2).ext hx) (H4.out.ext hx))
    clear hc8 hel3 hul3 H3 H4 X3 XA X HI1 HI2 HD
    go_wp2_with fail
    go_loopw [8, 39] (fun ov iv wr => ∃ (i : Nat), i ≤ us3.length ∧ iv = .int .i64 i ∧ Hid (QsO wr w4.heap.size ov (ys.take i)) ∧ Ext w4 wr) (fun _ iv _ => us3.length - (intOf iv).toNat)
    case atStart => exact ⟨0, Nat.zero_le _, rfl, QsO.nil _ _, Ext.refl _⟩
    case round =>
      obtain ⟨i, hi, rfl, HO, X⟩ := hrel
      by_cases hlt : i < us3.length
      · obtain ⟨u, d1, d2, d3⟩ := get_lt hlt
        obtain ⟨qs, q1, q2, q3⟩ := get_lt (xs := MR) (k := i) (by rw [← HUL3.out]; exact hlt)
        obtain ⟨b3, off3, rfl, hc0⟩ := HC3.out.ext X i u d1.out
        have hcell : wr.cell? ⟨b3, off3 + i, none⟩ = some u := hc0
        have HDO := Lib.hid (fun W (hx : Ext w4 W) => HDO1.out i u qs W d1.out q1.out hx)
        obtain ⟨ao6, c6, rfl, _, _⟩ := (HEL3.out i u qs d1.out q1.out).opn
        have hki : (i : Int) < (us3.length : Int) := by omega
        have HTJ : Hid (ys.take (i + 1) = ys.take i ++ [dotQ qs rs]) := by
          show _ = _
          obtain ⟨h2, h3⟩ := List.getElem?_eq_some_iff.1 (HYG.out i qs q1.out)
          rw [List.take_succ_eq_append_getElem h2, h3]
        have HTL : Hid ((ys.take i).length ≤ 1000000) := by show _ ≤ _; rw [List.length_take]; omega
        generalize ys.take i = Y1 at *
        clear hc0 hlt
        go_wp2_with fail
        refine (HDO.out _ X).mono ?_
        rintro e w9 ⟨u9, rfl, h9, X9⟩
        obtain ⟨s5, ao5, l5, c5, bo5, m5, d5, rfl, _, _, _⟩ := h9.opn
        have HO4 := HO.out.ext X9
        have XA := X.trans X9
        have hsz := XA.size
        clear HO
        go_wp2_with (at_builtin; refine wp_appQ (sl := .tmp 43) (x := .tmp 47) rfl rfl HO4 h9 rfl rfl rfl HTL.out hsz ?_; intro v' w' hown hgrew hclean)
        have HE := Lib.hid (QsO.grew HO4 hgrew XA (Nat.le_refl _))
        rw [← HTJ.out] at hown
        have HOW := Lib.hid hown
        go_roundw
        case rel => exact ⟨i + 1, by omega, by go_num, HOW, HE.out⟩
        case measure => simp [intOf] <;> omega
      · have hil : us3.length = i := by omega
        have hmm : ys.take i = ys := by rw [← hil, HUL3.out, ← HYL.out]; exact List.take_length
        have HR0 := HO.out
        rw [hmm] at HR0
        have HROW := Lib.hid HR0
        have X5 := X
        clear hmm HO HR0 hil X
        go_wp2_with fail
        have HZ1 := Lib.hid (HROW.out.toV (by have := HYL.out; have := HNL.out; omega))
        refine (HOA.out _ _ (XB.trans X5) HZ1.out).mono ?_
        rintro e w9 ⟨X9, h9⟩
        have XZ := (XB.trans X5).trans X9
        rcases h9 with ⟨hn, rfl⟩ | ⟨os, u1, hn, rfl, hst1⟩
        · go_wp2_with fail
          go_ret2
          exact ⟨XZ, .inl ⟨hn, rfl⟩⟩
        · obtain ⟨ao1, c1, rfl, _, _⟩ := hst1.open
          have H1 := Lib.hid hst1
          clear hst1
          go_wp2_with fail
          go_ret2
          exact ⟨XZ, .inr ⟨os, _, hn, rfl, H1.out⟩⟩
end Go.Proofs.YtnfmknjhkpgppaaGreatDoor
/- walks: rat.OutAll (own slice), matrix.outMatrix -/
namespace Go.Proofs.YtnfmknjhkpgppaaGreatDoor
open Go.RowKit
set_option linter.unusedVariables false

set_option maxHeartbeats 3200000 in
set_option maxRecDepth 100000 in
theorem outAllO_any (v : Value) (qs : List Rat) (w : World) (htab : TabPow w) (hv : QsV w v qs) (hl : qs.length ≤ 1000000) :
    Calls Tryz.prog 29 #[v] w fun e w' => Ext w w' ∧ ((outsG qs = none ∧ e = .returned (.tuple #[.slice none 0 0, .int .i64 2])) ∨ ∃ os u, outsG qs = some os ∧ e = .returned (.tuple #[u, .int .i64 0]) ∧ Strs w' u os ∧ Fr w.heap.size u (os.map Value.string)) := by
  obtain ⟨wo, rfl⟩ : ∃ wo : World, wo = w := ⟨_, rfl⟩
  obtain ⟨ao4, c4, ts, rfl, hql, htl, hcells, hqv⟩ := hv
  have HC4 := Lib.hid hcells
  have HV4 := Lib.hid hqv
  have HTL := Lib.hid htl
  have HT := Lib.hid htab
  clear hcells hqv htl htab
  go_enter Tryz.func29, Tryz.ntmps29
  go_wp2_with fail
  go_loopw [4, 11] (fun ov iv wr => ∃ (i : Nat) (os : List ByteArray), i ≤ qs.length ∧ iv = .int .i64 i ∧ wr.ownsRow wo.heap.size 31 1 ov i (os.map Value.string) ∧ Ext wo wr ∧ Hid (outsG qs = (outsG (qs.drop i)).map (os ++ ·))) (fun _ iv _ => qs.length - (intOf iv).toNat)
  case atStart => exact ⟨0, [], Nat.zero_le _, rfl, World.ownsRow_nil _ _ _ _, Ext.refl _, by show _ = _; rw [List.drop_zero]; cases outsG qs <;> rfl⟩
  case round =>
    obtain ⟨i, os, hi, rfl, HO, X, HI⟩ := hrel
    by_cases hlt : i < qs.length
    · obtain ⟨tt, t1, _, _⟩ := get_lt (xs := ts) (k := i) (by rw [HTL.out]; exact hlt)
      obtain ⟨qq, q1, q2, _⟩ := get_lt hlt
      obtain ⟨g, rfl, e0, e1, e2⟩ := HC4.out i tt t1.out
      have hqq := (HV4.out i tt qq t1.out q1.out).ext X
      have e0 := X.cell e0
      have e1 := X.cell e1
      have e2 := X.cell e2
      obtain ⟨a1, a2, a3⟩ := tt
      obtain ⟨s5, ao5, l5, c5, bo5, m5, c6, hv5, _, _, _⟩ := hqq.opn
      simp only [TV.v, Value.agg.injEq, Array.mk.injEq, List.cons.injEq, and_true] at hv5
      obtain ⟨rfl, rfl, rfl⟩ := hv5
      dsimp only at e0 e1 e2
      have HQ5 := Lib.hid (show QV wr (.agg #[.bool s5, .slice ao5 l5 c5, .slice bo5 m5 c6]) qq from hqq)
      have hki : (i : Int) < (qs.length : Int) := by omega
      have hi2 := HI.out
      rw [q2.out, outsG] at hi2
      have XL := (Ext.refl wr).alloc (.cells #[.bool s5, .slice ao5 l5 c5, .slice bo5 m5 c6] 60)
      have HOUT := Lib.hid (out_any _ qq _ (HQ5.out.ext XL) (tabPow_ext HT.out (X.trans XL)))
      have XA := X.trans XL
      cases hf : fitsB qq
      · rw [hf, if_neg (by simp), Option.map_none] at hi2
        rw [show outF qq = (⟨#[]⟩, 2) from if_neg (by rw [hf]; simp)] at HOUT
        have HI2 := Lib.hid hi2
        clear hqq hf hi2 hlt
        go_wp2_with fail
        refine HOUT.out.mono ?_
        rintro e w3 ⟨rfl, X3⟩
        go_wp2_with fail
        go_ret2
        exact ⟨XA.trans X3, .inl ⟨HI2.out, rfl⟩⟩
      · rw [hf, if_pos rfl] at hi2
        rw [show outF qq = (ratT qq, 0) from if_pos hf] at HOUT
        have hi3 : outsG qs = (outsG (qs.drop (i + 1))).map ((os ++ [ratT qq]) ++ ·) := by
          rw [hi2]
          cases outsG (qs.drop (i + 1)) <;> simp
        generalize ratT qq = T at *
        have HI2 := Lib.hid hi3
        clear hqq hf hi2 hi3 hlt
        go_wp2_with fail
        refine HOUT.out.mono ?_
        rintro e w3 ⟨rfl, X3⟩
        have HO3 := own_ext HO (XL.trans X3)
        have XB := XA.trans X3
        have hsz := XB.size
        go_wp2_with (at_builtin; refine wp_app1 (s := .tmp 23) (x := .tmp 25) (y := .string T) rfl rfl ei_rats HO3 rfl rfl rfl rfl (by omega) (by omega) (by omega) ?_; intro v' w' hown hgrew)
        go_roundw
        case rel => exact ⟨i + 1, os ++ [T], by omega, by go_num, own_cast hown (by simp) rfl, hgrew.extNew XB HO3 (Nat.le_refl _), HI2⟩
        case measure => simp [intOf]; omega
    · have hil : qs.length = i := by omega
      have hi2 := HI.out
      rw [← hil, List.drop_length, outsG] at hi2
      have HI2 := Lib.hid hi2
      have HR := Lib.hid (own_rowOf (enc := Value.string) HO (by omega))
      have HFR := Lib.hid (own_fr (vs := os.map Value.string) HO (fun hne => by
        have := HO.1
        have := List.length_pos_iff.2 hne
        omega))
      clear hlt HO hi2
      go_wp2_with fail
      go_ret2
      exact ⟨X, .inr ⟨os, _, by rw [HI2.out]; simp, rfl, HR.out, HFR.out⟩⟩

theorem info_vec : (Tryz.prog.info? 25).map (fun i => (i.zero, i.size, i.bytes)) = some (some (.slice none 0 0), 1, 24) := by kernel_rfl
theorem ei_mat : EI Tryz.prog 23 25 (.slice none 0 0) 1 24 := ⟨Tryz.underlying23, info_parts info_vec, rfl, by decide⟩
/-- the texts of rows of numbers, if none is too long -/
def outsM : List (List Rat) → Option (List (List ByteArray))
  | [] => some []
  | r :: t => match outsG r with
    | none => none
    | some os => (outsM t).map (os :: ·)
theorem rowsX_rows {B : Nat} {r : Option Nat} {w : World} {v : Value} {us : List Value} {xss : List (List ByteArray)} (h : RowsX B r w us (xss.map (·.map Value.string))) (hv : Row w v us) : Rows Value.string w v xss := by
  refine ⟨us, hv, by have := h.len; rwa [List.length_map] at this, fun i u xs a b => (h.row i u (xs.map Value.string) a (by rw [List.getElem?_map, b]; rfl)).1.1⟩
/-- what a function returns that makes a matrix -/
def MatPost (M : List (List Rat)) (w : World) (e : Ending) (w' : World) : Prop := Ext w w' ∧
  ((outsM M = none ∧ e = .returned (.tuple #[.slice none 0 0, .int .i64 2])) ∨ ∃ os u, outsM M = some os ∧ e = .returned (.tuple #[u, .int .i64 0]) ∧ Rows Value.string w' u os)

set_option maxHeartbeats 3200000 in
set_option maxRecDepth 100000 in
theorem outMatrix_any (v : Value) (ms : List (List Rat)) (w : World) (htab : TabPow w) (hv : QssV w v ms) (hl : ms.length ≤ 1000000) (hll : ∀ r ∈ ms, r.length ≤ 1000000) :
    Calls Tryz.prog 48 #[v] w (MatPost ms w) := by
  obtain ⟨wo, rfl⟩ : ∃ wo : World, wo = w := ⟨_, rfl⟩
  obtain ⟨us, hr, hul, hel⟩ := hv
  obtain ⟨ao, c, rfl, _, hlen, _, hc⟩ := hr
  have HC := Lib.hid hc
  have HEL := Lib.hid hel
  have HUL := Lib.hid hul
  have HT := Lib.hid htab
  have HLL := Lib.hid hll
  have hu1 : us.length ≤ 1000000 := by omega
  unfold MatPost
  clear hc hel hul hl htab hll
  go_enter Tryz.func48, Tryz.ntmps48
  go_wp2_with fail
  go_loopw [4, 11] (fun ov iv wr => ∃ (i : Nat) (oss : List (List ByteArray)) (xs : List Value), i ≤ us.length ∧ iv = .int .i64 i ∧ Hid (wr.ownsRow wo.heap.size 25 1 ov i xs) ∧ Hid (RowsX wo.heap.size ov.ownBlock wr xs (oss.map (·.map Value.string))) ∧ Ext wo wr ∧ Hid (outsM ms = (outsM (ms.drop i)).map (oss ++ ·))) (fun _ iv _ => us.length - (intOf iv).toNat)
  case atStart => exact ⟨0, [], [], Nat.zero_le _, rfl, World.ownsRow_nil _ _ _ _, RowsX.nil _ _ _, Ext.refl _, by show _ = _; rw [List.drop_zero]; cases outsM ms <;> rfl⟩
  case round =>
    obtain ⟨i, oss, xs, hi, rfl, HO, HRX, X, HI⟩ := hrel
    by_cases hlt : i < us.length
    · obtain ⟨u, d1, d2, d3⟩ := get_lt hlt
      obtain ⟨qs, q1, q2, q3⟩ := get_lt (xs := ms) (k := i) (by rw [← HUL.out]; exact hlt)
      obtain ⟨b, off, rfl, hc0⟩ := HC.out.ext X i u d1.out
      have hcell : wr.cell? ⟨b, off + i, none⟩ = some u := hc0
      have HOA := Lib.hid (outAllO_any u qs wr (tabPow_ext HT.out X) ((HEL.out i u qs d1.out q1.out).ext X) (HLL.out qs (List.mem_of_getElem? q1.out)))
      obtain ⟨ao2, c2, rfl, _, _⟩ := (HEL.out i u qs d1.out q1.out).opn
      have hki : (i : Int) < (us.length : Int) := by omega
      have hi2 := HI.out
      rw [q2.out, outsM] at hi2
      have HI2 := Lib.hid hi2
      clear hc0 hlt hi2
      go_wp2_with fail
      refine HOA.out.mono ?_
      rintro e w3 ⟨X3, h9⟩
      rcases h9 with ⟨hn, rfl⟩ | ⟨os, u1, hn, rfl, hst1, hfr⟩
      · have hz := HI2.out
        rw [hn] at hz
        have HZ := Lib.hid (show outsM ms = none from hz)
        clear hz hn
        go_wp2_with fail
        go_ret2
        exact ⟨X.trans X3, .inl ⟨HZ.out, rfl⟩⟩
      · have hz := HI2.out
        rw [hn] at hz
        have HZ : Hid (outsM ms = (outsM (ms.drop (i + 1))).map ((oss ++ [os]) ++ ·)) := by
          show _ = _
          rw [hz]
          cases outsM (ms.drop (i + 1)) <;> simp
        obtain ⟨ao1, c1, rfl, _, _⟩ := hst1.open
        have HO4 := own_ext HO.out X3
        have XA := X.trans X3
        have hsz := XA.size
        have hwr : wr.heap.size ≤ w3.heap.size := X3.size
        have HLT := Lib.hid (fun k hk => ((HO.out).lt k hk).2)
        have HRX3 := Lib.hid ((HRX.out.ext X3).snoc (u := .slice ao1 os.length c1) (vs := os.map Value.string) ⟨hst1, hfr.away HLT.out⟩ (hfr.mono X.size))
        generalize os.length = n1 at *
        clear hz hn hst1 HI2 HRX HO hfr
        go_wp2_with (at_builtin; refine wp_app1 (s := .tmp 23) (x := .tmp 25) (y := .slice ao1 n1 c1) rfl rfl ei_mat HO4 rfl rfl rfl rfl (by omega) (by omega) (by omega) ?_; intro v' w' hown hgrew)
        have HRY0 := HRX3.out.grew ⟨hgrew.by', hgrew.blk⟩
        have HRY := Lib.hid (show RowsX wo.heap.size v'.ownBlock w' (xs ++ [.slice ao1 n1 c1]) ((oss ++ [os]).map (·.map Value.string)) by rw [List.map_append]; exact HRY0)
        have HE := Lib.hid (hgrew.extNew XA HO4 (Nat.le_refl _))
        have HOW := Lib.hid hown
        clear HRY0
        go_roundw
        case rel => exact ⟨i + 1, oss ++ [os], xs ++ [.slice ao1 n1 c1], by omega, by go_num, HOW, HRY, HE.out, HZ⟩
        case measure => simp [intOf] <;> omega
    · have hil : us.length = i := by omega
      have hi2 := HI.out
      rw [← hil, HUL.out, List.drop_length, outsM] at hi2
      have HI2 := Lib.hid hi2
      have HR := Lib.hid (rowsX_rows HRX.out (own_row HO.out (by omega)))
      clear hlt HO HRX hi2
      go_wp2_with fail
      go_ret2
      exact ⟨X, .inr ⟨oss, _, by rw [HI2.out]; simp, rfl, HR.out⟩⟩
end Go.Proofs.YtnfmknjhkpgppaaGreatDoor
/- walk: matrix.Mul -/
namespace Go.Proofs.YtnfmknjhkpgppaaGreatDoor
open Go.RowKit
set_option linter.unusedVariables false

theorem ix_mat0 (x y : Value) (W : World) : (Instr.index 90 (.agg #[x, y]) (.int .i64 0)).run Tryz.prog W = .ok x W := by
  have a3 := Tryz.isAgg23
  have z3 := Tryz.sizeOf23
  simp [Instr.index, run_underlying Tryz.underlying90, asIntOf, go_sem, a3, z3]
theorem ix_mat1 (x y : Value) (W : World) : (Instr.index 90 (.agg #[x, y]) (.int .i64 1)).run Tryz.prog W = .ok y W := by
  have a3 := Tryz.isAgg23
  have z3 := Tryz.sizeOf23
  simp [Instr.index, run_underlying Tryz.underlying90, asIntOf, go_sem, a3, z3]
def mulE (a b : List (List ByteArray)) : Int := if matE a ≠ 0 then matE a else if matE b ≠ 0 then matE b else if wideL a ≠ b.length then 3 else 0
def mulQ (a b : List (List ByteArray)) : List (List Rat) := (numM a).map fun r => (colsQ (numM b) (wideL b)).map (dotQ r)
theorem mulE_zero {a b : List (List ByteArray)} (h : mulE a b = 0) : matE a = 0 ∧ matE b = 0 ∧ wideL a = b.length := by
  unfold mulE at h
  by_cases h1 : matE a = 0
  · rw [if_neg (by simpa using h1)] at h
    by_cases h2 : matE b = 0
    · rw [if_neg (by simpa using h2)] at h
      by_cases h3 : wideL a = b.length
      · exact ⟨h1, h2, h3⟩
      · rw [if_pos h3] at h; cases h
    · rw [if_pos h2] at h; exact absurd h h2
  · rw [if_pos h1] at h; exact absurd h h1

end Go.Proofs.YtnfmknjhkpgppaaGreatDoor
/- walk: matrix.Mul (no error) -/
namespace Go.Proofs.YtnfmknjhkpgppaaGreatDoor
open Go.RowKit
set_option linter.unusedVariables false

set_option maxHeartbeats 6400000 in
set_option maxRecDepth 100000 in
theorem mul_ok (v u : Value) (a b : List (List ByteArray)) (w : World) (htab : TabPow w) (hv : Rows Value.string w v a) (hu : Rows Value.string w u b) (hs : ∀ l ∈ a, ∀ s ∈ l, s.size ≤ 9223372036854775806) (hs2 : ∀ l ∈ b, ∀ s ∈ l, s.size ≤ 9223372036854775806) (he : mulE a b = 0) :
    Calls Tryz.prog 19 #[v, u] w (MatPost (mulQ a b) w) := by
  obtain ⟨em1, em2, e3⟩ := mulE_zero he
  obtain ⟨ha40, hok1⟩ := matE_zero hs em1
  obtain ⟨hb40, hok2⟩ := matE_zero hs2 em2
  have HC1 := Lib.hid (fun W (hx : Ext w W) => mCheck_any v a W (hv.ext hx) hs 0 em1)
  have HC2 := Lib.hid (fun W (hx : Ext w W) => mCheck_any u b W (hu.ext hx) hs2 0 em2)
  have HW1 := Lib.hid (fun W (hx : Ext w W) => mWidth_any v a W (hv.ext hx))
  have HW2 := Lib.hid (fun W (hx : Ext w W) => mWidth_any u b W (hu.ext hx))
  have HI1 := Lib.hid (fun W (hx : Ext w W) => mIn_any v a W (hv.ext hx) (fun l hl => (hok1 l hl).2.2) (by omega) (fun l hl => by have := (hok1 l hl).2.1; omega))
  have HI2 := Lib.hid (fun W (hx : Ext w W) => mIn_any u b W (hu.ext hx) (fun l hl => (hok2 l hl).2.2) (by omega) (fun l hl => by have := (hok2 l hl).2.1; omega))
  have hrb : ∀ r ∈ numM a, ∀ q ∈ r, RB 2000 q := numM_RB fun l hl s hs => ratOf_RB2k ((hok1 l hl).2.2 s hs).1
  have hrb2 : ∀ r ∈ numM b, ∀ q ∈ r, RB 2000 q := numM_RB fun l hl s hs => ratOf_RB2k ((hok2 l hl).2.2 s hs).1
  have hNL1 : (numM a).length = a.length := List.length_map ..
  have hNL2 : (numM b).length = b.length := List.length_map ..
  have hwid : wideL b ≤ 40 := by
    cases hb : b with
    | nil => exact Nat.zero_le _
    | cons r t =>
      have := (hok2 r (by rw [hb]; exact List.mem_cons_self ..)).2.1
      exact this
  have hRL1 : ∀ r ∈ numM a, r.length = b.length := fun r hr => by
    have := numM_len (k := wideL a) (fun l hl => (hok1 l hl).1) r hr
    omega
  have hRL2 : ∀ r ∈ numM b, r.length = wideL b := numM_len (k := wideL b) (fun l hl => (hok2 l hl).1)
  have hCL : (colsQ (numM b) (wideL b)).length = wideL b := by unfold colsQ; rw [List.length_map, List.length_range]
  have hCM : ∀ r ∈ colsQ (numM b) (wideL b), (∀ q ∈ r, RB 2000 q) ∧ r.length = b.length := by
    intro r hr
    unfold colsQ at hr
    obtain ⟨i, hi, rfl⟩ := List.mem_map.1 hr
    exact ⟨colQ_RB hrb2 (by omega) i, by unfold colQ; rw [List.length_map, hNL2]⟩
  have HCS := Lib.hid (fun (x : Value) W (hx : QssV W x (numM b)) => columns_any x (numM b) (wideL b) W hx (by omega) (by omega) (fun r hr => by rw [hRL2 r hr]; omega))
  have HD := Lib.hid (fun (x y : Value) (r s : List Rat) W (hr : r ∈ numM a) (hc : s ∈ colsQ (numM b) (wideL b)) (hx : QsV W x r) (hy : QsV W y s) => dotOf_any x y r s 2000 2000 W hx hy (by rw [hRL1 r hr, (hCM s hc).2]; omega) (hrb r hr) (hCM s hc).1 (by rw [hRL1 r hr]; omega))
  have HOM := Lib.hid (fun (x : Value) W (hx : Ext w W) h => outMatrix_any x (mulQ a b) W (tabPow_ext htab hx) h (by unfold mulQ; rw [List.length_map]; omega) (fun r hr => by
    unfold mulQ at hr
    obtain ⟨s, _, rfl⟩ := List.mem_map.1 hr
    rw [List.length_map]; omega))
  have HML : Hid ((mulQ a b).length = (numM a).length) := by show _ = _; unfold mulQ; rw [List.length_map]
  have HMG : Hid (∀ (i : Nat) r, (numM a)[i]? = some r → (mulQ a b)[i]? = some ((colsQ (numM b) (wideL b)).map (dotQ r))) := fun i r h => by unfold mulQ; rw [List.getElem?_map, h]; rfl
  have HNA := Lib.hid (show (numM a).length ≤ 40 by omega)
  have HNC := Lib.hid (show (colsQ (numM b) (wideL b)).length ≤ 40 by omega)
  rw [show a.map (·.map ratOf) = numM a from rfl] at HI1
  rw [show b.map (·.map ratOf) = numM b from rfl] at HI2
  unfold MatPost
  generalize mulQ a b = PM at *
  generalize colsQ (numM b) (wideL b) = CM at *
  generalize numM b = MB at *
  generalize numM a = MA at *
  obtain ⟨us, hr, hul, hel⟩ := hv
  obtain ⟨ao, c, rfl, _, hlen, _, hc⟩ := hr
  obtain ⟨ys, hr2, hul2, hel2⟩ := hu
  obtain ⟨bo, d, rfl, _, hlen2, _, hc2⟩ := hr2
  have hbn : ((wideL a : Int) != (ys.length : Int)) = false := by rw [bne_eq_false_iff_eq]; omega
  generalize wideL a = ka at *
  generalize wideL b = kb at *
  clear hc hc2 hel hel2 hul hul2 hs hs2 he em1 em2 e3 hok1 hok2 hrb hrb2 htab ha40 hb40 hNL1 hNL2 hRL1 hRL2 hCL hCM hwid
  go_enter Tryz.func19, Tryz.ntmps19
  go_wp2_with fail
  go_loopw [19] (fun iv wr => ∃ (i : Nat), i ≤ 2 ∧ iv = .int .i64 i ∧ Ext w wr) (fun iv _ => 2 - (intOf iv).toNat)
  case atStart => exact ⟨0, by omega, rfl, Ext.refl _⟩
  case round =>
    obtain ⟨i, hi, rfl, X⟩ := hrel
    rcases (show i = 0 ∨ i = 1 ∨ i = 2 by omega) with rfl | rfl | rfl
    · go_wp2_with fail
      rw [ix_mat0]
      go_wp2_with fail
      refine (HC1.out _ X).mono ?_
      rintro e w2 ⟨rfl, X2⟩
      go_wp2_with fail
      go_roundw
      case rel => exact ⟨1, by omega, rfl, X.trans X2⟩
      case measure => simp [intOf]
    · go_wp2_with fail
      rw [ix_mat1]
      go_wp2_with fail
      refine (HC2.out _ X).mono ?_
      rintro e w2 ⟨rfl, X2⟩
      go_wp2_with fail
      go_roundw
      case rel => exact ⟨2, by omega, rfl, X.trans X2⟩
      case measure => simp [intOf]
    · go_wp2_with fail
      refine (HW1.out _ X).mono ?_
      rintro e w3 ⟨rfl, X3⟩
      have X3 := X.trans X3
      go_wp2_with fail
      refine (HI2.out _ X3).mono ?_
      rintro e w4 ⟨x4, rfl, hX4, X4⟩
      obtain ⟨us4, hr4, hul4, hel4⟩ := hX4
      have HX4 := Lib.hid (show QssV w4 x4 MB from ⟨us4, hr4, hul4, hel4⟩)
      obtain ⟨ao4, c4, rfl, _, _, _, _⟩ := hr4
      have X4 := X3.trans X4
      clear hul4 hel4 X3 X
      go_wp2_with fail
      refine (HW2.out _ X4).mono ?_
      rintro e w5 ⟨rfl, X5⟩
      have HX5 := Lib.hid (HX4.out.ext X5)
      have X5 := X4.trans X5
      clear HX4 X4
      go_wp2_with fail
      refine (HCS.out _ _ HX5.out).mono ?_
      rintro e w6 ⟨x6, rfl, hX6, X6⟩
      obtain ⟨us6, hr6, hul6, hel6⟩ := hX6
      obtain ⟨ao6, c6, rfl, _, hlen6, _, hc6⟩ := hr6
      have HC6 := Lib.hid hc6
      have HEL6 := Lib.hid hel6
      have HUL6 := Lib.hid hul6
      have X6 := X5.trans X6
      have hu6 : us6.length ≤ 40 := by have := HNC.out; omega
      clear hul6 hel6 hc6 X5 HX5 HC1 HC2 HW1 HW2 HI2 HCS
      go_wp2_with fail
      refine (HI1.out _ X6).mono ?_
      rintro e w7 ⟨x7, rfl, hX7, X7⟩
      obtain ⟨us7, hr7, hul7, hel7⟩ := hX7
      obtain ⟨ao7, c7, rfl, _, hlen7, _, hc7⟩ := hr7
      have HC7 := Lib.hid hc7
      have HUL7 := Lib.hid hul7
      have HEL7 := Lib.hid hel7
      have hu7 : us7.length ≤ 40 := by have := HNA.out; omega
      have HC8 := Lib.hid (fun W (hx : Ext w7 W) => HC6.out.ext (X7.trans hx))
      have HD7 := Lib.hid (fun (i j : Nat) (x y : Value) (r s : List Rat) W (g1 : us7[i]? = some x) (g2 : MA[i]? = some r) (g3 : us6[j]? = some y) (g4 : CM[j]? = some s) (hx : Ext w7 W) => HD.out x y r s W (List.mem_of_getElem? g2) (List.mem_of_getElem? g4) ((hel7 i x r g1 g2).ext hx) ((HEL6.out j y s g3 g4).ext (X7.trans hx)))
      have X7 := X6.trans X7
      clear hul7 hel7 hc7 X6 HI1 HC6 HD
      go_wp2_with fail
      go_loopw [10, 41] (fun ov iv wr => ∃ (i : Nat), i ≤ us7.length ∧ iv = .int .i64 i ∧ Hid (QssO wr w7.heap.size ov (PM.take i)) ∧ Ext w7 wr) (fun _ iv _ => us7.length - (intOf iv).toNat)
      case atStart => exact ⟨0, Nat.zero_le _, rfl, QssO.nil _ _, Ext.refl _⟩
      case round =>
        obtain ⟨i, hi, rfl, HO, X⟩ := hrel
        obtain ⟨wi, rfl⟩ : ∃ wi : World, wi = wr := ⟨_, rfl⟩
        by_cases hlt : i < us7.length
        · obtain ⟨u, d1, d2, d3⟩ := get_lt hlt
          obtain ⟨r, q1, q2, q3⟩ := get_lt (xs := MA) (k := i) (by rw [← HUL7.out]; exact hlt)
          obtain ⟨b7, off7, rfl, hc0⟩ := HC7.out.ext X i u d1.out
          have hcell : wi.cell? ⟨b7, off7 + i, none⟩ = some u := hc0
          obtain ⟨ao8, c8, rfl, _, _⟩ := (HEL7.out i u r d1.out q1.out).opn
          have hki : (i : Int) < (us7.length : Int) := by omega
          have HPL : Hid ((PM.take i).length ≤ 1000000) := by show _ ≤ _; rw [List.length_take]; omega
          have HTK : Hid (PM.take (i + 1) = PM.take i ++ [CM.map (dotQ r)]) := by
            show _ = _
            obtain ⟨h2, h3⟩ := List.getElem?_eq_some_iff.1 (HMG.out i r q1.out)
            rw [List.take_succ_eq_append_getElem h2, h3]
          have HD8 := Lib.hid (fun (j : Nat) (y : Value) (s : List Rat) W (g3 : us6[j]? = some y) (g4 : CM[j]? = some s) (hx : Ext w7 W) => HD7.out i j _ y r s W d1.out q1.out g3 g4 hx)
          generalize PM.take i = M1 at *
          have HKL : Hid ((CM.map (dotQ r)).length = us6.length) := by show _ = _; rw [List.length_map]; exact HUL6.out.symm
          have HKG : Hid (∀ (j : Nat) s, CM[j]? = some s → (CM.map (dotQ r))[j]? = some (dotQ r s)) := fun j s h => by rw [List.getElem?_map, h]; rfl
          generalize CM.map (dotQ r) = col at *
          generalize r.length = rl at *
          clear hlt hc0
          go_wp2_with fail
          go_loopw [13, 47] (fun cv jv wr => ∃ (j : Nat), j ≤ us6.length ∧ jv = .int .i64 j ∧ Hid (QsO wr wi.heap.size cv (col.take j)) ∧ Ext wi wr) (fun _ jv _ => us6.length - (intOf jv).toNat)
          case atStart => exact ⟨0, Nat.zero_le _, rfl, QsO.nil _ _, Ext.refl _⟩
          case round =>
            obtain ⟨j, hj, rfl, HC2, Y⟩ := hrel
            by_cases hlt2 : j < us6.length
            · obtain ⟨y, p1, p2, p3⟩ := get_lt hlt2
              obtain ⟨s, s1, s2, s3⟩ := get_lt (xs := CM) (k := j) (by rw [← HUL6.out]; exact hlt2)
              obtain ⟨b6, off6, rfl, hc1⟩ := HC8.out _ (X.trans Y) j y p1.out
              have hcell2 : wr.cell? ⟨b6, off6 + j, none⟩ = some y := hc1
              obtain ⟨ao9, c9, rfl, _, _⟩ := (HEL6.out j y s p1.out s1.out).opn
              have HDO := Lib.hid (HD8.out j _ s _ p1.out s1.out (X.trans Y))
              have hkj : (j : Int) < (us6.length : Int) := by omega
              have HTJ : Hid (col.take (j + 1) = col.take j ++ [dotQ r s]) := by
                show _ = _
                obtain ⟨h2, h3⟩ := List.getElem?_eq_some_iff.1 (HKG.out j s s1.out)
                rw [List.take_succ_eq_append_getElem h2, h3]
              have HTL : Hid ((col.take j).length ≤ 1000000) := by show _ ≤ _; rw [List.length_take]; omega
              generalize col.take j = C1 at *
              generalize s.length = sl at *
              clear hc1 hlt2
              go_wp2_with fail
              refine HDO.out.mono ?_
              rintro e w9 ⟨u9, rfl, h9, X9⟩
              obtain ⟨s5, ao5, l5, c5, bo5, m5, d5, rfl, _, _, _⟩ := h9.opn
              have HCO := HC2.out.ext X9
              have YA := Y.trans X9
              have hsz := YA.size
              clear HC2
              go_wp2_with (at_builtin; refine wp_appQ (sl := .tmp 51) (x := .tmp 55) rfl rfl HCO h9 rfl rfl rfl HTL.out hsz ?_; intro v' w' hown hgrew hclean)
              have HE := Lib.hid (QsO.grew HCO hgrew YA (Nat.le_refl _))
              rw [← HTJ.out] at hown
              have HOW := Lib.hid hown
              go_roundw
              case rel => exact ⟨j + 1, by omega, by go_num, HOW, HE.out⟩
              case measure => simp [intOf] <;> omega
            · have hjl : us6.length = j := by omega
              have hcc : col.take j = col := by rw [← hjl, ← HKL.out]; exact List.take_length
              have HC3 := HC2.out
              rw [hcc] at HC3
              have HV := HC3.toV (by rw [HKL.out]; omega)
              have HF3 := fun k hk => (HC3.lt k hk).1
              have HO4 := HO.out.ext Y
              have haw := HO.out.away HV HF3
              obtain ⟨yo, yc, rfl, hyl, hyc⟩ := HV.opn
              have XA := X.trans Y
              have hsz := XA.size
              have hcl := HKL.out
              obtain ⟨L, hL⟩ : ∃ L, col.length = L := ⟨_, rfl⟩
              rw [hL] at HV haw ⊢
              clear hcc HC3 HF3 hyc HC2 hcl hL hjl
              go_wp2_with (at_builtin; refine wp_appQs (sl := .tmp 58) (x := .tmp 60) rfl rfl HO4 HV haw rfl rfl rfl HPL.out hsz ?_; intro v' w' hown hgrew hclean)
              have HE := Lib.hid (QssO.grew HO4 hgrew XA (Nat.le_refl _))
              rw [← HTK.out] at hown
              have HOW := Lib.hid hown
              go_roundw
              case rel => exact ⟨i + 1, by omega, by go_num, HOW, HE.out⟩
              case measure => simp [intOf] <;> omega
        · have hil : us7.length = i := by omega
          have hmm : PM.take i = PM := by rw [← hil, HUL7.out, ← HML.out]; exact List.take_length
          have HR0 := HO.out
          rw [hmm] at HR0
          have HR := Lib.hid (HR0.toV (by have := HML.out; have := HNA.out; omega))
          have XZ := X7.trans X
          clear hlt hmm HO HR0
          go_wp2_with fail
          refine (HOM.out _ _ XZ HR.out).mono ?_
          rintro e w9 ⟨X9, h9⟩
          have XY := XZ.trans X9
          rcases h9 with ⟨hn, rfl⟩ | ⟨os, u1, hn, rfl, hst1⟩
          · go_wp2_with fail
            go_ret2
            exact ⟨XY, .inl ⟨hn, rfl⟩⟩
          · obtain ⟨zs, hz1, hz2, hz3⟩ := hst1
            have H1 := Lib.hid (show Rows Value.string w9 u1 os from ⟨zs, hz1, hz2, hz3⟩)
            obtain ⟨az, cz, rfl, _, _, _, _⟩ := hz1
            clear hz2 hz3
            go_wp2_with fail
            go_ret2
            exact ⟨XY, .inr ⟨os, _, hn, rfl, H1.out⟩⟩
end Go.Proofs.YtnfmknjhkpgppaaGreatDoor
/- walk: matrix.Transpose -/
namespace Go.Proofs.YtnfmknjhkpgppaaGreatDoor
open Go.RowKit
set_option linter.unusedVariables false

theorem ei_vecs : EI Tryz.prog 25 31 (.string ⟨#[]⟩) 1 16 := ⟨Tryz.underlying25, info_parts info_rat, rfl, by decide⟩
def tcol (m : List (List ByteArray)) (k : Nat) : List ByteArray := m.map (·.getD k ⟨#[]⟩)
def transS (m : List (List ByteArray)) : List (List ByteArray) := (List.range (wideL m)).map (tcol m)

set_option maxHeartbeats 3200000 in
set_option maxRecDepth 100000 in
theorem trans_ok (v : Value) (m : List (List ByteArray)) (w : World) (hv : Rows Value.string w v m) (hs : ∀ l ∈ m, ∀ s ∈ l, s.size ≤ 9223372036854775806) (he : matE m = 0) :
    Calls Tryz.prog 20 #[v] w fun e w' => ∃ u, e = .returned (.tuple #[u, .int .i64 0]) ∧ Rows Value.string w' u (transS m) ∧ Ext w w' := by
  obtain ⟨hm40, hok1⟩ := matE_zero hs he
  have HC1 := Lib.hid (mCheck_any v m w hv hs 0 he)
  have HW1 := Lib.hid (fun W (hx : Ext w W) => mWidth_any v m W (hv.ext hx))
  obtain ⟨us, hr, hul, hel⟩ := hv
  obtain ⟨ao, c, rfl, _, hlen, _, hc⟩ := hr
  have HC := Lib.hid hc
  have HEL := Lib.hid hel
  have HUL := Lib.hid hul
  have HWD := Lib.hid (fun l hl => (hok1 l hl).1)
  have hu1 : us.length ≤ 40 := by omega
  have hw40 : wideL m ≤ 40 := by
    cases hb : m with
    | nil => exact Nat.zero_le _
    | cons r t =>
      have := (hok1 r (by rw [hb]; exact List.mem_cons_self ..)).2.1
      exact this
  have HML : Hid ((transS m).length = wideL m) := by show _ = _; unfold transS; rw [List.length_map, List.length_range]
  have HMG : Hid (∀ i, i < wideL m → (transS m)[i]? = some (tcol m i)) := fun i hi => by unfold transS; rw [List.getElem?_map, List.getElem?_range hi]; rfl
  generalize transS m = M at *
  generalize wideL m = n at *
  clear hc hel hul hs he hok1 hm40
  go_enter Tryz.func20, Tryz.ntmps20
  go_wp2_with fail
  refine HC1.out.mono ?_
  rintro e w1 ⟨rfl, X1⟩
  go_wp2_with fail
  refine (HW1.out _ X1).mono ?_
  rintro e w2 ⟨rfl, X2⟩
  have XW := X1.trans X2
  clear X1 X2 HC1 HW1
  go_wp2_with fail
  go_loopw [5, 17] (fun ov iv wr => ∃ (i : Nat) (xs : List Value), i ≤ n ∧ iv = .int .i64 i ∧ Hid (wr.ownsRow w2.heap.size 25 1 ov i xs) ∧ Hid (RowsX w2.heap.size ov.ownBlock wr xs ((M.take i).map (·.map Value.string))) ∧ Ext w2 wr) (fun _ iv _ => n - (intOf iv).toNat)
  case atStart => exact ⟨0, [], Nat.zero_le _, rfl, World.ownsRow_nil _ _ _ _, RowsX.nil _ _ _, Ext.refl _⟩
  case round =>
    obtain ⟨i, xs, hi, rfl, HO, HRX, X⟩ := hrel
    obtain ⟨wi, rfl⟩ : ∃ wi : World, wi = wr := ⟨_, rfl⟩
    by_cases hlt : i < n
    · have hki : (i : Int) < (n : Int) := by omega
      have HTK : Hid (M.take (i + 1) = M.take i ++ [tcol m i]) := by
        show _ = _
        have h1 := HMG.out i hlt
        obtain ⟨h2, h3⟩ := List.getElem?_eq_some_iff.1 h1
        rw [List.take_succ_eq_append_getElem h2, h3]
      generalize M.take i = M1 at *
      have HKL : Hid ((tcol m i).length = us.length) := by show _ = _; unfold tcol; rw [List.length_map]; exact HUL.out.symm
      have HKG : Hid (∀ (j : Nat) (r : List ByteArray), m[j]? = some r → (tcol m i)[j]? = some (r.getD i ⟨#[]⟩)) := fun j r h => by unfold tcol; rw [List.getElem?_map, h]; rfl
      generalize tcol m i = col at *
      go_wp2_with fail
      go_loopw [7, 22] (fun cv jv wr => ∃ (j : Nat), j ≤ us.length ∧ jv = .int .i64 j ∧ Hid (wr.ownsRow wi.heap.size 31 1 cv j ((col.take j).map Value.string)) ∧ Ext wi wr) (fun _ jv _ => us.length - (intOf jv).toNat)
      case atStart => exact ⟨0, Nat.zero_le _, rfl, World.ownsRow_nil _ _ _ _, Ext.refl _⟩
      case round =>
        obtain ⟨j, hj, rfl, HC2, Y⟩ := hrel
        by_cases hlt2 : j < us.length
        · obtain ⟨u, d1, d2, d3⟩ := get_lt hlt2
          obtain ⟨r, q1, q2, q3⟩ := get_lt (xs := m) (k := j) (by rw [← HUL.out]; exact hlt2)
          have XX := (XW.trans X).trans Y
          obtain ⟨b, off, rfl, hc0⟩ := HC.out.ext XX j u d1.out
          have hcell : wr.cell? ⟨b, off + j, none⟩ = some u := hc0
          have hrw := HWD.out r (List.mem_of_getElem? q1.out)
          obtain ⟨ao2, c2, rfl, hlen2, hQ⟩ := ((HEL.out j u r d1.out q1.out).ext XX).open
          obtain ⟨q, p1, _, _⟩ := get_lt (show i < r.length by omega)
          obtain ⟨b2, off2, rfl, hq0⟩ := hQ.at p1
          have hqcell : wr.cell? ⟨b2, off2 + i, none⟩ = some (.string q) := hq0
          have hkj : (j : Int) < (us.length : Int) := by omega
          have hkr : (i : Int) < (r.length : Int) := by omega
          have HTJ : Hid ((col.take (j + 1)).map Value.string = (col.take j).map Value.string ++ [.string q]) := by
            show _ = _
            have h1 := HKG.out j r q1.out
            rw [List.getD_eq_getElem?_getD, p1.out] at h1
            obtain ⟨h2, h3⟩ := List.getElem?_eq_some_iff.1 h1
            rw [List.take_succ_eq_append_getElem h2, h3, List.map_append]
            rfl
          generalize (col.take j).map Value.string = C1 at *
          have hsz := Y.size
          have HCO := HC2.out
          clear hc0 hq0 hlt2 hrw hQ HC2
          go_wp2_with (at_builtin; refine wp_app1 (s := .tmp 26) (x := .tmp 31) (y := .string q) rfl rfl ei_vecs HCO rfl rfl rfl rfl (by omega) (by omega) (by omega) ?_; intro v' w' hown hgrew)
          have HE := Lib.hid (hgrew.extNew Y HCO (Nat.le_refl _))
          rw [← HTJ.out] at hown
          have HOW := Lib.hid hown
          go_roundw
          case rel => exact ⟨j + 1, by omega, by go_num, HOW, HE.out⟩
          case measure => simp [intOf] <;> omega
        · have hjl : us.length = j := by omega
          have hcc : col.take j = col := by rw [← hjl, ← HKL.out]; exact List.take_length
          have HC3 := HC2.out
          rw [hcc] at HC3
          have hrow := own_row HC3 (by omega)
          have hfr := own_fr (vs := col.map Value.string) HC3 (fun hne => by
            have := HC3.1
            have := List.length_pos_iff.2 hne
            omega)
          obtain ⟨yo, yc, rfl, _, _, _, _⟩ := (show Row _ _ _ from hrow)
          have HO4 := own_ext HO.out Y
          have XA := X.trans Y
          have hsz := XA.size
          have hwr : wi.heap.size ≤ wr.heap.size := Y.size
          have HLT := Lib.hid (fun k hk => ((HO.out).lt k hk).2)
          have HRX3 := Lib.hid ((HRX.out.ext Y).snoc ⟨hrow, hfr.away HLT.out⟩ (hfr.mono X.size))
          generalize (col.map Value.string).length = n1 at *
          clear hcc HC3 HC2 hrow hfr HO HRX hjl
          go_wp2_with (at_builtin; refine wp_app1 (s := .tmp 34) (x := .tmp 36) (y := .slice yo n1 yc) rfl rfl ei_mat HO4 rfl rfl rfl rfl (by omega) (by omega) (by omega) ?_; intro v' w' hown hgrew)
          have HRY0 := HRX3.out.grew ⟨hgrew.by', hgrew.blk⟩
          have HRY := Lib.hid (show RowsX w2.heap.size v'.ownBlock w' (xs ++ [.slice yo n1 yc]) ((M.take (i + 1)).map (·.map Value.string)) by rw [HTK.out, List.map_append]; exact HRY0)
          have HE := Lib.hid (hgrew.extNew XA HO4 (Nat.le_refl _))
          have HOW := Lib.hid hown
          clear HRY0
          go_roundw
          case rel => exact ⟨i + 1, xs ++ [.slice yo n1 yc], by omega, by go_num, HOW, HRY, HE.out⟩
          case measure => simp [intOf] <;> omega
    · have hil : n = i := by omega
      have hmm : M.take i = M := by rw [← hil, ← HML.out]; exact List.take_length
      have HR0 := HRX.out
      rw [hmm] at HR0
      have HR := Lib.hid (rowsX_rows HR0 (own_row HO.out (by omega)))
      have XZ := XW.trans X
      clear hlt hmm HO HRX HR0
      go_wp2_with fail
      go_ret2
      exact ⟨_, rfl, HR.out, XZ⟩
end Go.Proofs.YtnfmknjhkpgppaaGreatDoor
/- walk: matrix.Same, of equal matrices -/
namespace Go.Proofs.YtnfmknjhkpgppaaGreatDoor
open Go.RowKit
set_option linter.unusedVariables false

set_option maxHeartbeats 1600000 in
set_option maxRecDepth 100000 in
theorem sameClo_any (u v : Value) (xs : List ByteArray) (w : World) (hu : Strs w u xs) (hv : Strs w v xs) :
    Calls Tryz.prog 52 #[u, v] w fun e w' => e = .returned (.bool true) ∧ Ext w w' := by
  have HC := Lib.hid (equal_vec u v xs w hu hv)
  obtain ⟨ao, c, rfl, hlen, hc⟩ := hu.open
  obtain ⟨bo, d, rfl, hlen2, hd⟩ := hv.open
  clear hc hd hu hv
  go_enter Tryz.func52, Tryz.ntmps52
  go_wp2_with fail
  refine HC.out.mono ?_
  rintro e w2 ⟨rfl, X2⟩
  go_wp2_with fail
  go_ret
  exact ⟨rfl, X2⟩

set_option maxHeartbeats 1600000 in
set_option maxRecDepth 100000 in
theorem equalFn_mat (u v : Value) (m : List (List ByteArray)) (w : World) (hu : Rows Value.string w u m) (hv : Rows Value.string w v m) :
    Calls Tryz.prog 51 #[u, v, .func (.func 52) #[] #[]] w fun e w' => e = .returned (.bool true) ∧ Ext w w' := by
  obtain ⟨us, hr, hul, hel⟩ := hu
  obtain ⟨ao, c, rfl, _, hlen, _, hc⟩ := hr
  obtain ⟨ys, hr2, hul2, hel2⟩ := hv
  obtain ⟨bo, d, rfl, _, hlen2, _, hc2⟩ := hr2
  have HC := Lib.hid hc
  have HEL := Lib.hid hel
  have HC2 := Lib.hid hc2
  have HEL2 := Lib.hid hel2
  obtain ⟨n, hn⟩ : ∃ n, us.length = n := ⟨_, rfl⟩
  have hn2 : ys.length = n := by omega
  have HN := Lib.hid hn
  have HN2 := Lib.hid hn2
  have HM := Lib.hid (show m.length = n by omega)
  have hnb : n ≤ 17592186044416 := by omega
  rw [hn, hn2]
  clear hc hc2 hel hel2 hlen hlen2 hn hn2 hul hul2
  go_enter Tryz.func51, Tryz.ntmps51
  go_wp2_with fail
  go_loopw [17] (fun i wr => ∃ k : Nat, k ≤ n ∧ i = .int .i64 k ∧ Ext w wr) (fun i _ => n - (intOf i).toNat)
  case atStart => exact ⟨0, Nat.zero_le _, rfl, Ext.refl _⟩
  case round =>
    obtain ⟨k, hk, rfl, X⟩ := hrel
    by_cases hlt : k < n
    · obtain ⟨x, h1, _, _⟩ := get_lt (xs := us) (k := k) (by rw [HN.out]; exact hlt)
      obtain ⟨y, h2, _, _⟩ := get_lt (xs := ys) (k := k) (by rw [HN2.out]; exact hlt)
      obtain ⟨r, h3, _, _⟩ := get_lt (xs := m) (k := k) (by rw [HM.out]; exact hlt)
      obtain ⟨b, off, rfl, hc0⟩ := HC.out.ext X k x h1.out
      have hcell : wr.cell? ⟨b, off + k, none⟩ = some x := hc0
      obtain ⟨b2, off2, rfl, hc1⟩ := HC2.out.ext X k y h2.out
      have hcell2 : wr.cell? ⟨b2, off2 + k, none⟩ = some y := hc1
      have HS := Lib.hid (sameClo_any x y r wr ((HEL.out k x r h1.out h3.out).ext X) ((HEL2.out k y r h2.out h3.out).ext X))
      obtain ⟨ao3, c3, rfl, _, _⟩ := (HEL.out k x r h1.out h3.out).open
      obtain ⟨ao4, c4, rfl, _, _⟩ := (HEL2.out k y r h2.out h3.out).open
      have hki : (k : Int) < (n : Int) := by omega
      clear hc0 hc1 hlt
      go_wp2_with fail
      refine HS.out.mono ?_
      rintro e w2 ⟨rfl, X2⟩
      go_wp2_with fail
      go_roundw
      case rel => exact ⟨k + 1, by omega, by go_num, X.trans X2⟩
      case measure => simp [intOf]; omega
    · have hki : (n : Int) ≤ (k : Int) := by omega
      clear hlt
      go_wp2_with fail
      go_ret
      exact ⟨rfl, X⟩

set_option maxHeartbeats 1600000 in
set_option maxRecDepth 100000 in
theorem same_any (u v : Value) (m : List (List ByteArray)) (w : World) (hu : Rows Value.string w u m) (hv : Rows Value.string w v m) :
    Calls Tryz.prog 22 #[u, v] w fun e w' => e = .returned (.bool true) ∧ Ext w w' := by
  have HC := Lib.hid (equalFn_mat u v m w hu hv)
  obtain ⟨us, hr, hul, hel⟩ := hu
  obtain ⟨ao, c, rfl, _, hlen, _, hc⟩ := hr
  obtain ⟨ys, hr2, hul2, hel2⟩ := hv
  obtain ⟨bo, d, rfl, _, hlen2, _, hc2⟩ := hr2
  clear hc hc2 hel hel2 hul hul2
  go_enter Tryz.func22, Tryz.ntmps22
  go_wp2_with fail
  refine HC.out.mono ?_
  rintro e w2 ⟨rfl, X2⟩
  go_wp2_with fail
  go_ret
  exact ⟨rfl, X2⟩
end Go.Proofs.YtnfmknjhkpgppaaGreatDoor
/- walk: matrix.Same, of matrices whose first elements differ -/
namespace Go.Proofs.YtnfmknjhkpgppaaGreatDoor
open Go.RowKit
set_option linter.unusedVariables false

set_option maxHeartbeats 1600000 in
set_option maxRecDepth 100000 in
theorem equal_vec_ne (u v : Value) (x y : ByteArray) (xs ys : List ByteArray) (w : World) (hu : Strs w u (x :: xs)) (hv : Strs w v (y :: ys)) (hl : xs.length = ys.length) (hne : x.toList ≠ y.toList) :
    Calls Tryz.prog 15 #[u, v] w fun e w' => e = .returned (.bool false) ∧ Ext w w' := by
  obtain ⟨ao, c, rfl, hlen, hc⟩ := hu.open
  obtain ⟨bo, d, rfl, hlen2, hd⟩ := hv.open
  clear hu hv
  have HC := Lib.hid hc
  have HD := Lib.hid hd
  have h1 : Hid ((x :: xs)[0]? = some x) := rfl
  have h2 : Hid ((y :: ys)[0]? = some y) := rfl
  obtain ⟨n, hn⟩ : ∃ n, (x :: xs).length = n := ⟨_, rfl⟩
  have hn2 : (y :: ys).length = n := by rw [← hn, List.length_cons, List.length_cons, hl]
  have hn0 : (0 : Int) < (n : Int) := by rw [← hn, List.length_cons]; omega
  rw [hn, hn2]
  generalize x :: xs = X at *
  generalize y :: ys = Y at *
  clear hc hd hn hn2 hl
  go_enter Tryz.func15, Tryz.ntmps15
  go_wp2_with fail
  go_loopw [13] (fun i wr => ∃ k : Nat, Hid (k = 0) ∧ i = .int .i64 k ∧ Ext w wr) (fun i _ => 0)
  case atStart => exact ⟨0, rfl, rfl, Ext.refl _⟩
  case round =>
    obtain ⟨k, HK, rfl, HX⟩ := hrel
    have h1 : Hid (X[k]? = some x) := by show _ = _; rw [HK.out]; exact h1.out
    have h2 : Hid (Y[k]? = some y) := by show _ = _; rw [HK.out]; exact h2.out
    have hki : (k : Int) < (n : Int) := by have := HK.out; omega
    have hlt : k < n := by have := HK.out; omega
    obtain ⟨b, off, rfl, _⟩ := HC.out.at h1
    have hcell := (HC.out.ext HX).at' h1
    obtain ⟨b2, off2, rfl, _⟩ := HD.out.at h2
    have hcell2 := (HD.out.ext HX).at' h2
    have hx1 : (x.toList != y.toList) = true := by
      rw [bne_iff_ne]; exact hne
    have hx2 : (x.toList == y.toList) = false := by
      rw [beq_eq_false_iff_ne]; exact hne
    go_wp2_with fail
    go_quiet (fail)
    go_wp2_with fail
    go_ret
    exact ⟨rfl, HX.drewN _⟩

set_option maxHeartbeats 1600000 in
set_option maxRecDepth 100000 in
theorem sameClo_ne (u v : Value) (x y : ByteArray) (xs ys : List ByteArray) (w : World) (hu : Strs w u (x :: xs)) (hv : Strs w v (y :: ys)) (hl : xs.length = ys.length) (hne : x.toList ≠ y.toList) :
    Calls Tryz.prog 52 #[u, v] w fun e w' => e = .returned (.bool false) ∧ Ext w w' := by
  have HC := Lib.hid (equal_vec_ne u v x y xs ys w hu hv hl hne)
  obtain ⟨ao, c, rfl, hlen, hc⟩ := hu.open
  obtain ⟨bo, d, rfl, hlen2, hd⟩ := hv.open
  obtain ⟨n, hn⟩ : ∃ n, (x :: xs).length = n := ⟨_, rfl⟩
  have hn2 : (y :: ys).length = n := by rw [← hn, List.length_cons, List.length_cons, hl]
  rw [hn, hn2] at HC
  rw [hn, hn2]
  clear hc hd hu hv hn hn2 hl hne
  go_enter Tryz.func52, Tryz.ntmps52
  go_wp2_with fail
  refine HC.out.mono ?_
  rintro e w2 ⟨rfl, X2⟩
  go_wp2_with fail
  go_ret
  exact ⟨rfl, X2⟩

set_option maxHeartbeats 1600000 in
set_option maxRecDepth 100000 in
theorem equalFn_ne (u v : Value) (x y : ByteArray) (xs ys : List ByteArray) (m1 m2 : List (List ByteArray)) (w : World) (hu : Rows Value.string w u ((x :: xs) :: m1)) (hv : Rows Value.string w v ((y :: ys) :: m2)) (hm : m1.length = m2.length) (hl : xs.length = ys.length) (hne : x.toList ≠ y.toList) :
    Calls Tryz.prog 51 #[u, v, .func (.func 52) #[] #[]] w fun e w' => e = .returned (.bool false) ∧ Ext w w' := by
  obtain ⟨us, hr, hul, hel⟩ := hu
  obtain ⟨ao, c, rfl, _, hlen, _, hc⟩ := hr
  obtain ⟨zs, hr2, hul2, hel2⟩ := hv
  obtain ⟨bo, d, rfl, _, hlen2, _, hc2⟩ := hr2
  obtain ⟨n, hn⟩ : ∃ n, us.length = n := ⟨_, rfl⟩
  have hn2 : zs.length = n := by rw [hul2, ← hn, hul, List.length_cons, List.length_cons, hm]
  have hn0 : 0 < n := by rw [← hn, hul, List.length_cons]; omega
  obtain ⟨p, p1, _, _⟩ := get_lt (xs := us) (k := 0) (by omega)
  obtain ⟨q, q1, _, _⟩ := get_lt (xs := zs) (k := 0) (by omega)
  have hp := hel 0 p _ p1.out rfl
  have hq := hel2 0 q _ q1.out rfl
  have HS := Lib.hid (fun W (hx : Ext w W) => sameClo_ne p q x y xs ys W (hp.ext hx) (hq.ext hx) hl hne)
  have hxl : (y :: ys).length = (x :: xs).length := by rw [List.length_cons, List.length_cons, hl]
  obtain ⟨ao3, c3, rfl, _, _⟩ := (show Strs _ _ _ from hp).open
  obtain ⟨ao4, c4, rfl, _, _⟩ := (show Strs _ _ _ from hq).open
  rw [hxl] at HS q1
  generalize (x :: xs).length = L at *
  have HC := Lib.hid hc
  have HC2 := Lib.hid hc2
  rw [hn, hn2]
  clear hc hc2 hel hel2 hn hn2 hul hul2 hp hq hm hl hne hxl
  go_enter Tryz.func51, Tryz.ntmps51
  go_wp2_with fail
  go_loopw [17] (fun i wr => ∃ k : Nat, Hid (k = 0) ∧ i = .int .i64 k ∧ Ext w wr) (fun i _ => 0)
  case atStart => exact ⟨0, rfl, rfl, Ext.refl _⟩
  case round =>
    obtain ⟨k, HK, rfl, X⟩ := hrel
    obtain ⟨b, off, rfl, hc0⟩ := HC.out.ext X k _ (by rw [HK.out]; exact p1.out)
    have hcell : wr.cell? ⟨b, off + k, none⟩ = some (.slice ao3 L c3) := hc0
    obtain ⟨b2, off2, rfl, hc1⟩ := HC2.out.ext X k _ (by rw [HK.out]; exact q1.out)
    have hcell2 : wr.cell? ⟨b2, off2 + k, none⟩ = some (.slice ao4 L c4) := hc1
    have hki : (k : Int) < (n : Int) := by have := HK.out; omega
    have hlt : k < n := by have := HK.out; omega
    clear hc0 hc1
    go_wp2_with fail
    refine (HS.out _ X).mono ?_
    rintro e w2 ⟨rfl, X2⟩
    go_wp2_with fail
    go_ret
    exact ⟨rfl, X.trans X2⟩

set_option maxHeartbeats 1600000 in
set_option maxRecDepth 100000 in
theorem same_ne (u v : Value) (x y : ByteArray) (xs ys : List ByteArray) (m1 m2 : List (List ByteArray)) (w : World) (hu : Rows Value.string w u ((x :: xs) :: m1)) (hv : Rows Value.string w v ((y :: ys) :: m2)) (hm : m1.length = m2.length) (hl : xs.length = ys.length) (hne : x.toList ≠ y.toList) :
    Calls Tryz.prog 22 #[u, v] w fun e w' => e = .returned (.bool false) ∧ Ext w w' := by
  have HC := Lib.hid (equalFn_ne u v x y xs ys m1 m2 w hu hv hm hl hne)
  obtain ⟨us, hr, hul, hel⟩ := hu
  obtain ⟨ao, c, rfl, _, hlen, _, hc⟩ := hr
  obtain ⟨zs, hr2, hul2, hel2⟩ := hv
  obtain ⟨bo, d, rfl, _, hlen2, _, hc2⟩ := hr2
  obtain ⟨n, hn⟩ : ∃ n, us.length = n := ⟨_, rfl⟩
  have hn2 : zs.length = n := by rw [hul2, ← hn, hul, List.length_cons, List.length_cons, hm]
  rw [hn, hn2] at HC
  rw [hn, hn2]
  clear hc hc2 hel hel2 hul hul2 hn hn2 hm hl hne
  go_enter Tryz.func22, Tryz.ntmps22
  go_wp2_with fail
  refine HC.out.mono ?_
  rintro e w2 ⟨rfl, X2⟩
  go_wp2_with fail
  go_ret
  exact ⟨rfl, X2⟩
end Go.Proofs.YtnfmknjhkpgppaaGreatDoor
/- walks of the reference: Dot, Column -/
namespace Go.Proofs.YtnfmknjhkpgppaaGreatDoor
open Go.RowKit
set_option linter.unusedVariables false

end Go.Proofs.YtnfmknjhkpgppaaGreatDoor
