/- walks: matrix.Dot, Apply -/
import Derived.Test.YtjnaecicdaiimaaGreatDoorRgY
import Derived.Test.YtjnaecicdaiimaaGreatDoorRtB
namespace Go.Proofs.YtjnaecicdaiimaaGreatDoor
open Go.RowKit
set_option linter.unusedVariables false

def dotE (a b : List ByteArray) : Int := if vecE a ≠ 0 then vecE a else if vecE b ≠ 0 then vecE b else if a.length ≠ b.length then 3 else 0
theorem vecE_ok {l : List ByteArray} (hs : ∀ s ∈ l, s.size ≤ 9223372036854775806) (h : vecE l = 0) : l.length ≤ 40 ∧ ∀ s ∈ l, RatOk s ∧ s.size ≤ 9223372036854775806 := by
  unfold vecE at h
  by_cases h1 : 40 < l.length
  · rw [if_pos h1] at h; cases h
  · rw [if_neg h1] at h
    exact ⟨by omega, fun s hm => ⟨ratErr_ok (errsL_zero h s hm), hs s hm⟩⟩
theorem dotE_zero {a b : List ByteArray} (h : dotE a b = 0) : vecE a = 0 ∧ vecE b = 0 ∧ a.length = b.length := by
  unfold dotE at h
  by_cases h1 : vecE a = 0
  · rw [if_neg (by simpa using h1)] at h
    by_cases h2 : vecE b = 0
    · rw [if_neg (by simpa using h2)] at h
      by_cases h3 : a.length = b.length
      · exact ⟨h1, h2, h3⟩
      · rw [if_pos h3] at h; cases h
    · rw [if_pos h2] at h; exact absurd h h2
  · rw [if_pos h1] at h; exact absurd h h1

theorem ix_vec0 (x y : Value) (W : World) : (Instr.index 105 (.agg #[x, y]) (.int .i64 0)).run Tryz.prog W = .ok x W := by
  have a3 := Tryz.isAgg36
  have z3 := Tryz.sizeOf36
  simp [Instr.index, run_underlying Tryz.underlying105, asIntOf, go_sem, a3, z3]
theorem ix_vec1 (x y : Value) (W : World) : (Instr.index 105 (.agg #[x, y]) (.int .i64 1)).run Tryz.prog W = .ok y W := by
  have a3 := Tryz.isAgg36
  have z3 := Tryz.sizeOf36
  simp [Instr.index, run_underlying Tryz.underlying105, asIntOf, go_sem, a3, z3]

set_option maxHeartbeats 1600000 in
set_option maxRecDepth 100000 in
theorem mDot_err (u v : Value) (a b : List ByteArray) (w : World) (hu : Strs w u a) (hv : Strs w v b) (hs : ∀ s ∈ a, s.size ≤ 9223372036854775806) (hs2 : ∀ s ∈ b, s.size ≤ 9223372036854775806) (he : dotE a b ≠ 0) :
    Calls Tryz.prog 37 #[u, v] w fun e w' => e = .returned (.tuple #[.string ⟨#[]⟩, .int .i64 (dotE a b)]) ∧ Ext w w' := by
  have HC1 := Lib.hid (fun W (hx : Ext w W) => checkVec_any u a W (hu.ext hx) hs _ rfl)
  have HC2 := Lib.hid (fun W (hx : Ext w W) => checkVec_any v b W (hv.ext hx) hs2 _ rfl)
  obtain ⟨ao, c, rfl, _, hc⟩ := hu.open
  obtain ⟨bo, d, rfl, _, hd⟩ := hv.open
  obtain ⟨R, hR⟩ : ∃ R, dotE a b = R := ⟨_, rfl⟩
  rw [hR] at he ⊢
  unfold dotE at hR
  generalize vecE a = p at *
  generalize vecE b = q at *
  have HR := Lib.hid hR
  clear hc hd hu hv hs hs2 hR
  go_enter Tryz.func37, Tryz.ntmps37
  go_wp2_with fail
  go_loopw [12] (fun iv wr => ∃ (i : Nat), i ≤ 2 ∧ iv = .int .i64 i ∧ Ext w wr ∧ Hid ((0 < i → p = 0) ∧ (1 < i → q = 0))) (fun iv _ => 2 - (intOf iv).toNat)
  case atStart => exact ⟨0, by omega, rfl, Ext.refl _, ⟨fun h => by omega, fun h => by omega⟩⟩
  case round =>
    obtain ⟨i, hi, rfl, X, HI⟩ := hrel
    rcases (show i = 0 ∨ i = 1 ∨ i = 2 by omega) with rfl | rfl | rfl
    · by_cases hp : p = 0
      · subst hp
        go_wp2_with fail
        rw [ix_vec0]
        go_wp2_with fail
        refine (HC1.out _ X).mono ?_
        rintro e w2 ⟨rfl, X2⟩
        go_wp2_with fail
        go_roundw
        case rel => exact ⟨1, by omega, rfl, X.trans X2, ⟨fun _ => by trivial, fun h => by omega⟩⟩
        case measure => simp [intOf]
      · have hb : (p != 0) = true := by simp [hp]
        have hr : p = R := by have := HR.out; rwa [if_pos hp] at this
        subst hr
        clear hp
        go_wp2_with fail
        rw [ix_vec0]
        go_wp2_with fail
        refine (HC1.out _ X).mono ?_
        rintro e w2 ⟨rfl, X2⟩
        go_wp2_with fail
        go_ret2
        exact ⟨rfl, X.trans X2⟩
    · have hp := HI.out.1 (by omega)
      subst hp
      by_cases hq : q = 0
      · subst hq
        go_wp2_with fail
        rw [ix_vec1]
        go_wp2_with fail
        refine (HC2.out _ X).mono ?_
        rintro e w2 ⟨rfl, X2⟩
        go_wp2_with fail
        go_roundw
        case rel => exact ⟨2, by omega, rfl, X.trans X2, ⟨fun _ => by trivial, fun _ => by trivial⟩⟩
        case measure => simp [intOf]
      · have hb : (q != 0) = true := by simp [hq]
        have hr : q = R := by have := HR.out; rwa [if_neg (by simp), if_pos hq] at this
        subst hr
        clear hq
        go_wp2_with fail
        rw [ix_vec1]
        go_wp2_with fail
        refine (HC2.out _ X).mono ?_
        rintro e w2 ⟨rfl, X2⟩
        go_wp2_with fail
        go_ret2
        exact ⟨rfl, X.trans X2⟩
    · have hp := HI.out.1 (by omega)
      have hq := HI.out.2 (by omega)
      subst hp
      subst hq
      have hr := HR.out
      rw [if_neg (by simp), if_neg (by simp)] at hr
      by_cases hl : a.length = b.length
      · rw [if_neg (by simpa using hl)] at hr
        exact absurd hr.symm he
      · rw [if_pos hl] at hr
        subst hr
        have hb : ((a.length : Int) != (b.length : Int)) = true := by rw [bne_iff_ne]; omega
        clear hl
        go_wp2_with fail
        go_ret2
        exact ⟨rfl, X⟩

set_option maxHeartbeats 3200000 in
set_option maxRecDepth 100000 in
theorem mDot_ok (u v : Value) (a b : List ByteArray) (w : World) (htab : TabPow w) (hu : Strs w u a) (hv : Strs w v b) (hs : ∀ s ∈ a, s.size ≤ 9223372036854775806) (hs2 : ∀ s ∈ b, s.size ≤ 9223372036854775806) (he : dotE a b = 0) :
    Calls Tryz.prog 37 #[u, v] w fun e w' => e = .returned (.tuple #[.string (outF (dotQ (a.map ratOf) (b.map ratOf))).1, .int .i64 (outF (dotQ (a.map ratOf) (b.map ratOf))).2]) ∧ Ext w w' := by
  obtain ⟨e1, e2, e3⟩ := dotE_zero he
  obtain ⟨ha40, hok1⟩ := vecE_ok hs e1
  obtain ⟨hb40, hok2⟩ := vecE_ok hs2 e2
  have HC1 := Lib.hid (fun W (hx : Ext w W) => checkVec_any u a W (hu.ext hx) hs 0 e1)
  have HC2 := Lib.hid (fun W (hx : Ext w W) => checkVec_any v b W (hv.ext hx) hs2 0 e2)
  have HI1 := Lib.hid (fun W (hx : Ext w W) => ratIn_any u a W (hu.ext hx) hok1 (by omega))
  have HI2 := Lib.hid (fun W (hx : Ext w W) => ratIn_any v b W (hv.ext hx) hok2 (by omega))
  have hr1 : ∀ q ∈ a.map ratOf, RB 2000 q := fun q hq => by
    obtain ⟨s, hm, rfl⟩ := List.mem_map.1 hq
    exact ratOf_RB2k (hok1 s hm).1
  have hr2 : ∀ q ∈ b.map ratOf, RB 2000 q := fun q hq => by
    obtain ⟨s, hm, rfl⟩ := List.mem_map.1 hq
    exact ratOf_RB2k (hok2 s hm).1
  have HDO := Lib.hid (fun (x y : Value) W hx hy => dotOf_any x y (a.map ratOf) (b.map ratOf) 2000 2000 W hx hy (by rw [List.length_map, List.length_map]; omega) hr1 hr2 (by rw [List.length_map]; omega))
  have HOU := Lib.hid (fun (x : Value) W (hx : Ext w W) h => out_any x (dotQ (a.map ratOf) (b.map ratOf)) W h (tabPow_ext htab hx))
  obtain ⟨ao, c, rfl, _, hc⟩ := hu.open
  obtain ⟨bo, d, rfl, _, hd⟩ := hv.open
  have hb : ((a.length : Int) != (b.length : Int)) = false := by rw [bne_eq_false_iff_eq]; omega
  generalize dotQ (a.map ratOf) (b.map ratOf) = R at *
  generalize a.map ratOf = qs at *
  generalize b.map ratOf = rs at *
  obtain ⟨⟨o1, o2⟩, hRR⟩ : ∃ R2, outF R = R2 := ⟨_, rfl⟩
  rw [hRR] at HOU ⊢
  clear hc hd hu hv hs hs2 he e1 e2 e3 hok1 hok2 hr1 hr2 htab ha40 hb40 hRR
  go_enter Tryz.func37, Tryz.ntmps37
  go_wp2_with fail
  go_loopw [12] (fun iv wr => ∃ (i : Nat), i ≤ 2 ∧ iv = .int .i64 i ∧ Ext w wr) (fun iv _ => 2 - (intOf iv).toNat)
  case atStart => exact ⟨0, by omega, rfl, Ext.refl _⟩
  case round =>
    obtain ⟨i, hi, rfl, X⟩ := hrel
    rcases (show i = 0 ∨ i = 1 ∨ i = 2 by omega) with rfl | rfl | rfl
    · go_wp2_with fail
      rw [ix_vec0]
      go_wp2_with fail
      refine (HC1.out _ X).mono ?_
      rintro e w2 ⟨rfl, X2⟩
      go_wp2_with fail
      go_roundw
      case rel => exact ⟨1, by omega, rfl, X.trans X2⟩
      case measure => simp [intOf]
    · go_wp2_with fail
      rw [ix_vec1]
      go_wp2_with fail
      refine (HC2.out _ X).mono ?_
      rintro e w2 ⟨rfl, X2⟩
      go_wp2_with fail
      go_roundw
      case rel => exact ⟨2, by omega, rfl, X.trans X2⟩
      case measure => simp [intOf]
    · go_wp2_with fail
      refine (HI1.out _ X).mono ?_
      rintro e w2 ⟨u2, rfl, h2, _, X2⟩
      have H2 := Lib.hid h2
      obtain ⟨ao2, c2, rfl, _, hx2⟩ := h2.opn
      have XA := X.trans X2
      clear hx2
      go_wp2_with fail
      refine (HI2.out _ XA).mono ?_
      rintro e w3 ⟨u3, rfl, h3, _, X3⟩
      have H3 := Lib.hid h3
      obtain ⟨ao3, c3, rfl, _, hx3⟩ := h3.opn
      have XB := XA.trans X3
      clear hx3
      go_wp2_with fail
      refine (HDO.out _ _ _ (by exact H2.out.ext X3) (by exact H3.out)).mono ?_
      rintro e w4 ⟨u4, rfl, h4, X4⟩
      obtain ⟨s5, ao5, l5, c5, bo5, m5, d5, rfl, _, _, _⟩ := h4.opn
      have H4 := Lib.hid h4
      have XC := XB.trans X4
      clear h4
      go_wp2_with fail
      refine (HOU.out _ _ XC (by exact H4.out)).mono ?_
      rintro e w6 ⟨rfl, X6⟩
      go_wp2_with fail
      go_ret2
      exact ⟨rfl, XC.trans X6⟩
end Go.Proofs.YtjnaecicdaiimaaGreatDoor
