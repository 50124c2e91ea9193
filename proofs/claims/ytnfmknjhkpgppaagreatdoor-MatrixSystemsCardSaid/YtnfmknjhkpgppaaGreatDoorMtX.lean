/- texts merged: MtA MtB MtC MtD MtE -/
import Derived.Test.YtnfmknjhkpgppaaGreatDoorRtJ
import Derived.Test.YtnfmknjhkpgppaaGreatDoorRtG
import Derived.Test.YtnfmknjhkpgppaaGreatDoorRtH
import Derived.Test.YtnfmknjhkpgppaaGreatDoorInC
import Derived.Test.YtnfmknjhkpgppaaGreatDoorSlB
import Derived.Test.YtnfmknjhkpgppaaGreatDoorRatAL
/- walks: the errors of vectors and matrices -/
namespace Go.Proofs.YtnfmknjhkpgppaaGreatDoor
open Go.RowKit
set_option linter.unusedVariables false

def vecE (l : List ByteArray) : Int := if 40 < l.length then 2 else errsL l
def wideL (m : List (List ByteArray)) : Nat := (m.headD []).length
def matG (n : Nat) : List (List ByteArray) → Int
  | [] => 0
  | r :: t => if r.length ≠ n then 3 else if vecE r ≠ 0 then vecE r else matG n t
def matE (m : List (List ByteArray)) : Int := if 40 < m.length then 2 else matG (wideL m) m
set_option maxHeartbeats 1600000 in
set_option maxRecDepth 100000 in
theorem checkVec_any (v : Value) (l : List ByteArray) (w : World) (hv : Strs w v l) (hs : ∀ s ∈ l, s.size ≤ 9223372036854775806) (Q : Int) (hQ : vecE l = Q) :
    Calls Tryz.prog 24 #[v] w fun e w' => e = .returned (.int .i64 Q) ∧ Ext w w' := by
  have HC := Lib.hid (fun Q hQ => checkAll_any v l w hv hs Q hQ)
  obtain ⟨ao, c, rfl, hlen, hc⟩ := hv.open
  unfold vecE at hQ
  clear hc hv hs
  by_cases h : 40 < l.length
  · rw [if_pos h] at hQ
    subst hQ
    have hi : (40 : Int) < (l.length : Int) := by omega
    clear h
    go_enter Tryz.func24, Tryz.ntmps24
    go_wp2_with fail
    go_ret
    exact ⟨rfl, Ext.refl _⟩
  · rw [if_neg h] at hQ
    have HC := Lib.hid (HC.out Q hQ)
    have hi : (l.length : Int) ≤ 40 := by omega
    clear h hQ
    go_enter Tryz.func24, Tryz.ntmps24
    go_wp2_with fail
    refine HC.out.mono ?_
    rintro e w2 ⟨rfl, X2⟩
    go_wp2_with fail
    go_ret
    exact ⟨rfl, X2⟩

set_option maxHeartbeats 1600000 in
set_option maxRecDepth 100000 in
theorem rVecError_any (v : Value) (l : List ByteArray) (w : World) (hv : Strs w v l) (hs : ∀ s ∈ l, s.size ≤ 9223372036854775806) (Q : Int) (hQ : vecE l = Q) :
    Calls Tryz.prog 10 #[v] w fun e w' => e = .returned (.int .i64 Q) ∧ Ext w w' := by
  have HC := Lib.hid (fun Q hQ => rRatErrors_any v l w hv hs Q hQ)
  obtain ⟨ao, c, rfl, hlen, hc⟩ := hv.open
  unfold vecE at hQ
  clear hc hv hs
  by_cases h : 40 < l.length
  · rw [if_pos h] at hQ
    subst hQ
    have hi : (40 : Int) < (l.length : Int) := by omega
    clear h
    go_enter Tryz.func10, Tryz.ntmps10
    go_wp2_with fail
    go_ret
    exact ⟨rfl, Ext.refl _⟩
  · rw [if_neg h] at hQ
    have HC := Lib.hid (HC.out Q hQ)
    have hi : (l.length : Int) ≤ 40 := by omega
    clear h hQ
    go_enter Tryz.func10, Tryz.ntmps10
    go_wp2_with fail
    refine HC.out.mono ?_
    rintro e w2 ⟨rfl, X2⟩
    go_wp2_with fail
    go_ret
    exact ⟨rfl, X2⟩

set_option maxHeartbeats 1600000 in
set_option maxRecDepth 100000 in
theorem mCheck_any (v : Value) (m : List (List ByteArray)) (w : World) (hv : Rows Value.string w v m) (hs : ∀ l ∈ m, ∀ s ∈ l, s.size ≤ 9223372036854775806) (Q : Int) (hQ : matE m = Q) :
    Calls Tryz.prog 23 #[v] w fun e w' => e = .returned (.int .i64 Q) ∧ Ext w w' := by
  obtain ⟨wo, rfl⟩ : ∃ wo : World, wo = w := ⟨_, rfl⟩
  obtain ⟨us, hr, hul, hel⟩ := hv
  obtain ⟨ao, c, rfl, _, hlen, _, hc⟩ := hr
  have HC := Lib.hid hc
  have HEL := Lib.hid hel
  have HUL := Lib.hid hul
  have HS := Lib.hid hs
  unfold matE at hQ
  rw [← hul] at hQ
  clear hc hel hs
  by_cases h : 40 < us.length
  · rw [if_pos h] at hQ
    subst hQ
    have hi : (40 : Int) < (us.length : Int) := by omega
    clear h hul
    go_enter Tryz.func23, Tryz.ntmps23
    go_wp2_with fail
    go_ret
    exact ⟨rfl, Ext.refl _⟩
  rw [if_neg h] at hQ
  have h40 : (us.length : Int) ≤ 40 := by omega
  have HQ := Lib.hid hQ
  clear h hQ hul
  go_enter Tryz.func23, Tryz.ntmps23
  go_wp2_with fail
  go_loopw [11] (fun iv wr => ∃ (i : Nat), i ≤ us.length ∧ iv = .int .i64 i ∧ Ext wo wr ∧ Hid (matG (wideL m) (m.drop i) = Q)) (fun iv _ => us.length - (intOf iv).toNat)
  case atStart => exact ⟨0, Nat.zero_le _, rfl, Ext.refl _, by show _ = _; rw [List.drop_zero]; exact HQ.out⟩
  case round =>
    obtain ⟨i, hi, rfl, X, HI⟩ := hrel
    by_cases hlt : i < us.length
    · obtain ⟨u, d1, d2, d3⟩ := get_lt hlt
      obtain ⟨l, q1, q2, q3⟩ := get_lt (xs := m) (k := i) (by rw [← HUL.out]; exact hlt)
      obtain ⟨u0, e1, e2, e3⟩ := get_lt (show 0 < us.length by omega)
      obtain ⟨l0, r1, r2, r3⟩ := get_lt (xs := m) (k := 0) (by rw [← HUL.out]; omega)
      obtain ⟨b, off, rfl, hc0⟩ := HC.out.ext X i u d1.out
      have hcell : wr.cell? ⟨b, off + i, none⟩ = some u := hc0
      obtain ⟨b', off', hb', hc1⟩ := HC.out.ext X 0 u0 e1.out
      simp only [Option.some.injEq, Addr.mk.injEq, and_true] at hb'
      obtain ⟨rfl, rfl⟩ := hb'
      have hcell0 : wr.cell? ⟨b, off, none⟩ = some u0 := hc1
      have HSR := HEL.out i u l d1.out q1.out
      have HCV := Lib.hid (fun W (hx : Ext wo W) Q hQ => checkVec_any u l W (HSR.ext hx) (HS.out l (List.mem_of_getElem? q1.out)) Q hQ)
      obtain ⟨ao2, c2, rfl, hlen2, hc2⟩ := HSR.open
      obtain ⟨ao3, c3, rfl, hlen3, hc3⟩ := (HEL.out 0 u0 l0 e1.out r1.out).open
      have hki : (i : Int) < (us.length : Int) := by omega
      have h0i : (0 : Int) < (us.length : Int) := by omega
      have hi2 := HI.out
      rw [q2.out, matG] at hi2
      have hw : wideL m = l0.length := by unfold wideL; rw [List.headD_eq_head?_getD, List.head?_eq_getElem?, r1.out]; rfl
      rw [hw] at hi2
      by_cases hne : l.length = l0.length
      · rw [if_neg (by simpa using hne)] at hi2
        have hb0 : ((l.length : Int) != (l0.length : Int)) = false := by rw [bne_eq_false_iff_eq]; omega
        obtain ⟨q, hq⟩ : ∃ q, vecE l = q := ⟨_, rfl⟩
        have HCV := Lib.hid (fun W (hx : Ext wo W) => HCV.out W hx q hq)
        rw [hq] at hi2
        by_cases hz : q = 0
        · subst hz
          rw [if_neg (by simp), ← hw] at hi2
          have HI2 := Lib.hid hi2
          clear hc0 hc1 hc2 hc3 hi2 hq hlt hne hw HSR
          go_wp2_with fail
          have Xz := X
          refine (HCV.out _ Xz).mono ?_
          rintro e w2 ⟨rfl, X2⟩
          go_wp2_with fail
          go_roundw
          case rel => exact ⟨i + 1, by omega, by go_num, Xz.trans X2, HI2⟩
          case measure => simp [intOf]; omega
        · rw [if_pos hz] at hi2
          have hbz : (q != 0) = true := by simp [hz]
          have HI2 := Lib.hid hi2
          clear hc0 hc1 hc2 hc3 hi2 hq hlt hne hw hz HSR
          go_wp2_with fail
          have Xz := X
          refine (HCV.out _ Xz).mono ?_
          rintro e w2 ⟨rfl, X2⟩
          go_wp2_with fail
          go_ret
          exact ⟨by rw [← HI2.out]; rfl, Xz.trans X2⟩
      · rw [if_pos (by simpa using hne)] at hi2
        have hb0 : ((l.length : Int) != (l0.length : Int)) = true := by rw [bne_iff_ne]; omega
        have HI2 := Lib.hid hi2
        clear hc0 hc1 hc2 hc3 hi2 hlt hne hw HSR
        go_wp2_with fail
        have Xz := X
        go_ret
        exact ⟨by rw [← HI2.out]; rfl, Xz⟩
    · have hil : us.length = i := by omega
      have hi2 := HI.out
      rw [← hil, HUL.out, List.drop_length] at hi2
      have HI2 := Lib.hid hi2
      clear hi2 hlt
      go_wp2_with fail
      go_ret
      exact ⟨by rw [← HI2.out]; rfl, X⟩

set_option maxHeartbeats 1600000 in
set_option maxRecDepth 100000 in
theorem rMatrixError_any (v : Value) (m : List (List ByteArray)) (w : World) (hv : Rows Value.string w v m) (hs : ∀ l ∈ m, ∀ s ∈ l, s.size ≤ 9223372036854775806) (Q : Int) (hQ : matE m = Q) :
    Calls Tryz.prog 8 #[v] w fun e w' => e = .returned (.int .i64 Q) ∧ Ext w w' := by
  obtain ⟨wo, rfl⟩ : ∃ wo : World, wo = w := ⟨_, rfl⟩
  obtain ⟨us, hr, hul, hel⟩ := hv
  obtain ⟨ao, c, rfl, _, hlen, _, hc⟩ := hr
  have HC := Lib.hid hc
  have HEL := Lib.hid hel
  have HUL := Lib.hid hul
  have HS := Lib.hid hs
  unfold matE at hQ
  rw [← hul] at hQ
  clear hc hel hs
  by_cases h : 40 < us.length
  · rw [if_pos h] at hQ
    subst hQ
    have hi : (40 : Int) < (us.length : Int) := by omega
    clear h hul
    go_enter Tryz.func8, Tryz.ntmps8
    go_wp2_with fail
    go_ret
    exact ⟨rfl, Ext.refl _⟩
  rw [if_neg h] at hQ
  have h40 : (us.length : Int) ≤ 40 := by omega
  have HQ := Lib.hid hQ
  clear h hQ hul
  go_enter Tryz.func8, Tryz.ntmps8
  go_wp2_with fail
  go_loopw [10] (fun iv wr => ∃ (i : Nat), i ≤ us.length ∧ iv = .int .i64 i ∧ Ext wo wr ∧ Hid (matG (wideL m) (m.drop i) = Q)) (fun iv _ => us.length - (intOf iv).toNat)
  case atStart => exact ⟨0, Nat.zero_le _, rfl, Ext.refl _, by show _ = _; rw [List.drop_zero]; exact HQ.out⟩
  case round =>
    obtain ⟨i, hi, rfl, X, HI⟩ := hrel
    by_cases hlt : i < us.length
    · obtain ⟨u, d1, d2, d3⟩ := get_lt hlt
      obtain ⟨l, q1, q2, q3⟩ := get_lt (xs := m) (k := i) (by rw [← HUL.out]; exact hlt)
      obtain ⟨u0, e1, e2, e3⟩ := get_lt (show 0 < us.length by omega)
      obtain ⟨l0, r1, r2, r3⟩ := get_lt (xs := m) (k := 0) (by rw [← HUL.out]; omega)
      obtain ⟨b, off, rfl, hc0⟩ := HC.out.ext X i u d1.out
      have hcell : wr.cell? ⟨b, off + i, none⟩ = some u := hc0
      obtain ⟨b', off', hb', hc1⟩ := HC.out.ext X 0 u0 e1.out
      simp only [Option.some.injEq, Addr.mk.injEq, and_true] at hb'
      obtain ⟨rfl, rfl⟩ := hb'
      have hcell0 : wr.cell? ⟨b, off, none⟩ = some u0 := hc1
      have HSR := HEL.out i u l d1.out q1.out
      have HCV := Lib.hid (fun W (hx : Ext wo W) Q hQ => rVecError_any u l W (HSR.ext hx) (HS.out l (List.mem_of_getElem? q1.out)) Q hQ)
      obtain ⟨ao2, c2, rfl, hlen2, hc2⟩ := HSR.open
      obtain ⟨ao3, c3, rfl, hlen3, hc3⟩ := (HEL.out 0 u0 l0 e1.out r1.out).open
      have hki : (i : Int) < (us.length : Int) := by omega
      have h0i : (0 : Int) < (us.length : Int) := by omega
      have hi2 := HI.out
      rw [q2.out, matG] at hi2
      have hw : wideL m = l0.length := by unfold wideL; rw [List.headD_eq_head?_getD, List.head?_eq_getElem?, r1.out]; rfl
      rw [hw] at hi2
      by_cases hne : l.length = l0.length
      · rw [if_neg (by simpa using hne)] at hi2
        have hb0 : ((l.length : Int) != (l0.length : Int)) = false := by rw [bne_eq_false_iff_eq]; omega
        obtain ⟨q, hq⟩ : ∃ q, vecE l = q := ⟨_, rfl⟩
        have HCV := Lib.hid (fun W (hx : Ext wo W) => HCV.out W hx q hq)
        rw [hq] at hi2
        by_cases hz : q = 0
        · subst hz
          rw [if_neg (by simp), ← hw] at hi2
          have HI2 := Lib.hid hi2
          clear hc0 hc1 hc2 hc3 hi2 hq hlt hne hw HSR
          go_wp2_with fail
          go_quiet (fail)
          have Xz := X.drewN nq
          have hz : (wr.drewN nq).cell? ⟨b, off + i, none⟩ = some (.slice ao2 l.length c2) := ((Ext.refl wr).drewN nq).cell hcell
          clear hcell hcell0
          generalize wr.drewN nq = wz at *
          go_wp2_with fail
          refine (HCV.out _ Xz).mono ?_
          rintro e w2 ⟨rfl, X2⟩
          go_wp2_with fail
          go_roundw
          case rel => exact ⟨i + 1, by omega, by go_num, Xz.trans X2, HI2⟩
          case measure => simp [intOf]; omega
        · rw [if_pos hz] at hi2
          have hbz : (q != 0) = true := by simp [hz]
          have HI2 := Lib.hid hi2
          clear hc0 hc1 hc2 hc3 hi2 hq hlt hne hw hz HSR
          go_wp2_with fail
          go_quiet (fail)
          have Xz := X.drewN nq
          have hz : (wr.drewN nq).cell? ⟨b, off + i, none⟩ = some (.slice ao2 l.length c2) := ((Ext.refl wr).drewN nq).cell hcell
          clear hcell hcell0
          generalize wr.drewN nq = wz at *
          go_wp2_with fail
          refine (HCV.out _ Xz).mono ?_
          rintro e w2 ⟨rfl, X2⟩
          go_wp2_with fail
          go_ret
          exact ⟨by rw [← HI2.out]; rfl, Xz.trans X2⟩
      · rw [if_pos (by simpa using hne)] at hi2
        have hb0 : ((l.length : Int) != (l0.length : Int)) = true := by rw [bne_iff_ne]; omega
        have HI2 := Lib.hid hi2
        clear hc0 hc1 hc2 hc3 hi2 hlt hne hw HSR
        go_wp2_with fail
        go_quiet (fail)
        have Xz := X.drewN nq
        have hz : (wr.drewN nq).cell? ⟨b, off + i, none⟩ = some (.slice ao2 l.length c2) := ((Ext.refl wr).drewN nq).cell hcell
        clear hcell hcell0
        generalize wr.drewN nq = wz at *
        go_wp2_with fail
        go_ret
        exact ⟨by rw [← HI2.out]; rfl, Xz⟩
    · have hil : us.length = i := by omega
      have hi2 := HI.out
      rw [← hil, HUL.out, List.drop_length] at hi2
      have HI2 := Lib.hid hi2
      clear hi2 hlt
      go_wp2_with fail
      go_ret
      exact ⟨by rw [← HI2.out]; rfl, X⟩

set_option maxHeartbeats 1600000 in
set_option maxRecDepth 100000 in
theorem mWidth_any (v : Value) (m : List (List ByteArray)) (w : World) (hv : Rows Value.string w v m) :
    Calls Tryz.prog 28 #[v] w fun e w' => e = .returned (.int .i64 (wideL m)) ∧ Ext w w' := by
  obtain ⟨us, hr, hul, hel⟩ := hv
  obtain ⟨ao, c, rfl, _, hlen, _, hc⟩ := hr
  cases m with
  | nil =>
    have h0 : us.length = 0 := hul
    rw [h0]
    clear hc hel
    go_enter Tryz.func28, Tryz.ntmps28
    go_wp2_with fail
    go_ret
    exact ⟨rfl, Ext.refl _⟩
  | cons l t =>
    have h0 : 0 < us.length := by rw [hul]; simp
    obtain ⟨u0, e1, e2, e3⟩ := get_lt h0
    obtain ⟨b, off, rfl, hc1⟩ := hc 0 u0 e1.out
    have hcell0 : w.cell? ⟨b, off, none⟩ = some u0 := hc1
    obtain ⟨ao3, c3, rfl, hlen3, hc3⟩ := (hel 0 u0 l e1.out rfl).open
    have h0i : (0 : Int) < (us.length : Int) := by omega
    have h0b : ((us.length : Int) == 0) = false := by rw [beq_eq_false_iff_ne]; omega
    clear hc hel hul hc1 hc3 h0
    go_enter Tryz.func28, Tryz.ntmps28
    go_wp2_with fail
    go_ret
    exact ⟨rfl, Ext.refl _⟩

set_option maxHeartbeats 1600000 in
set_option maxRecDepth 100000 in
theorem rWide_any (v : Value) (m : List (List ByteArray)) (w : World) (hv : Rows Value.string w v m) :
    Calls Tryz.prog 11 #[v] w fun e w' => e = .returned (.int .i64 (wideL m)) ∧ Ext w w' := by
  obtain ⟨us, hr, hul, hel⟩ := hv
  obtain ⟨ao, c, rfl, _, hlen, _, hc⟩ := hr
  cases m with
  | nil =>
    have h0 : us.length = 0 := hul
    rw [h0]
    clear hc hel
    go_enter Tryz.func11, Tryz.ntmps11
    go_wp2_with fail
    go_ret
    exact ⟨rfl, Ext.refl _⟩
  | cons l t =>
    have h0 : 0 < us.length := by rw [hul]; simp
    obtain ⟨u0, e1, e2, e3⟩ := get_lt h0
    obtain ⟨b, off, rfl, hc1⟩ := hc 0 u0 e1.out
    have hcell0 : w.cell? ⟨b, off, none⟩ = some u0 := hc1
    obtain ⟨ao3, c3, rfl, hlen3, hc3⟩ := (hel 0 u0 l e1.out rfl).open
    have h0i : (0 : Int) < (us.length : Int) := by omega
    have h0b : ((us.length : Int) == 0) = false := by rw [beq_eq_false_iff_ne]; omega
    clear hc hel hul hc1 hc3 h0
    go_enter Tryz.func11, Tryz.ntmps11
    go_wp2_with fail
    go_ret
    exact ⟨rfl, Ext.refl _⟩

end Go.Proofs.YtnfmknjhkpgppaaGreatDoor
/- slices of rational numbers that the call owns: append, store; rows of them -/
namespace Go.Proofs.YtnfmknjhkpgppaaGreatDoor
open Go.RowKit
set_option linter.unusedVariables false

/-! ### what an opened slice of numbers says of its cells -/
def QCells (w : World) (ao : Option Addr) (qs : List Rat) : Prop := ∀ (i : Nat) (q : Rat), qs[i]? = some q → ∃ g s a l c b m d, ao = some ⟨g, 0, none⟩ ∧
  w.cell? ⟨g, i * 3, none⟩ = some (.bool s) ∧ w.cell? ⟨g, i * 3 + 1, none⟩ = some (.slice a l c) ∧ w.cell? ⟨g, i * 3 + 2, none⟩ = some (.slice b m d) ∧ QV w (.agg #[.bool s, .slice a l c, .slice b m d]) q
theorem QCells.ext {w w' : World} {ao : Option Addr} {qs : List Rat} (h : QCells w ao qs) (hx : Ext w w') : QCells w' ao qs := fun i q hq => by
  obtain ⟨g, s, a, l, c, b, m, d, e, c0, c1, c2, h1⟩ := h i q hq
  exact ⟨g, s, a, l, c, b, m, d, e, hx.cell c0, hx.cell c1, hx.cell c2, h1.ext hx⟩
theorem QV.parts {w : World} {t : TV} {q : Rat} (h : QV w t.v q) : ∃ s a l c b m d, t = (.bool s, .slice a l c, .slice b m d) := by
  obtain ⟨a1, a2, a3⟩ := t
  obtain ⟨s5, ao5, l5, c5, bo5, m5, c6, hv5, _, _, _⟩ := h.opn
  simp only [TV.v, Value.agg.injEq, Array.mk.injEq, List.cons.injEq, and_true] at hv5
  obtain ⟨rfl, rfl, rfl⟩ := hv5
  exact ⟨_, _, _, _, _, _, _, rfl⟩
theorem QsV.opn {w : World} {v : Value} {qs : List Rat} (h : QsV w v qs) : ∃ ao c, v = .slice ao qs.length c ∧ qs.length ≤ 17592186044416 ∧ QCells w ao qs := by
  obtain ⟨ao, c, ts, h1, h2, h3, h4, h5⟩ := h
  refine ⟨ao, c, h1, h2, fun i q hq => ?_⟩
  have hi := (List.getElem?_eq_some_iff.1 hq).1
  have ht : ts[i]? = some (ts[i]'(by omega)) := List.getElem?_eq_getElem (by omega)
  obtain ⟨b, e, c0, c1, c2⟩ := h4 i _ ht
  have hv := h5 i _ q ht hq
  generalize ts[i]'(by omega) = t at *
  obtain ⟨s, a, l, c', b', m, d, rfl⟩ := hv.parts
  exact ⟨b, s, a, l, c', b', m, d, e, c0, c1, c2, hv⟩
theorem QsV.of {w : World} {ao : Option Addr} {c : Nat} {qs : List Rat} (hl : qs.length ≤ 17592186044416) (h : QCells w ao qs) : QsV w (.slice ao qs.length c) qs := by
  obtain ⟨ts, h1, h2⟩ := list_of (fun i (t : TV) => ∀ q, qs[i]? = some q → (∃ b, ao = some ⟨b, 0, none⟩ ∧ w.cell? ⟨b, i * 3, none⟩ = some t.1 ∧ w.cell? ⟨b, i * 3 + 1, none⟩ = some t.2.1 ∧ w.cell? ⟨b, i * 3 + 2, none⟩ = some t.2.2) ∧ QV w t.v q) qs.length (fun i hi => by
    obtain ⟨g, s, a, l, c, b, m, d, e, c0, c1, c2, hv⟩ := h i _ (List.getElem?_eq_getElem hi)
    refine ⟨(.bool s, .slice a l c, .slice b m d), fun q hq => ?_⟩
    rw [List.getElem?_eq_getElem hi] at hq
    cases hq
    exact ⟨⟨g, e, c0, c1, c2⟩, hv⟩)
  refine ⟨ao, c, ts, rfl, hl, h1, fun i t ht => ?_, fun i t q ht hq => (h2 i t ht q hq).2⟩
  have hi := (List.getElem?_eq_some_iff.1 ht).1
  exact (h2 i t ht _ (List.getElem?_eq_getElem (show i < qs.length by omega))).1

/-! ### own slices -/
def QsO (w : World) (B : Nat) (v : Value) (qs : List Rat) : Prop := ∃ ts : List TV, w.ownsRow B 60 3 v qs.length (flatT ts) ∧ Clean w v ∧ ts.length = qs.length ∧ ∀ (i : Nat) t q, ts[i]? = some t → qs[i]? = some q → QV w t.v q
theorem QsO.nil (w : World) (B : Nat) : QsO w B (.slice none 0 0) [] := ⟨[], World.ownsRow_nil _ _ _ _, Clean.nil _, rfl, fun i t q h => by simp at h⟩
theorem QsO.ext {w w' : World} {B : Nat} {v : Value} {qs : List Rat} (h : QsO w B v qs) (hx : Ext w w') : QsO w' B v qs := by
  obtain ⟨ts, h1, h2, h3, h4⟩ := h
  exact ⟨ts, own_ext h1 hx, h2.ext hx, h3, fun i t q a b => (h4 i t q a b).ext hx⟩
theorem QsO.mono {w : World} {B C : Nat} {v : Value} {qs : List Rat} (h : QsO w B v qs) (hc : C ≤ B) : QsO w C v qs := by
  obtain ⟨ts, h1, h2, h3, h4⟩ := h
  exact ⟨ts, own_mono h1 hc, h2, h3, h4⟩
theorem QsO.toV {w : World} {B : Nat} {v : Value} {qs : List Rat} (h : QsO w B v qs) (hl : qs.length ≤ 17592186044416) : QsV w v qs := by
  obtain ⟨ts, h1, h2, h3, h4⟩ := h
  exact QsV.own h1 hl rfl h3 h4
theorem QsO.lt {w : World} {B : Nat} {v : Value} {qs : List Rat} (h : QsO w B v qs) : ∀ k, v.ownBlock = some k → B ≤ k ∧ k < w.heap.size := by
  obtain ⟨ts, h1, h2, h3, h4⟩ := h
  exact fun k hk => h1.lt k hk
theorem QsO.clean {w : World} {B : Nat} {v : Value} {qs : List Rat} (h : QsO w B v qs) : Clean w v := by
  obtain ⟨ts, h1, h2, h3, h4⟩ := h
  exact h2
/-- a slice away from the block that is written reads on -/
theorem Clean.keptC {w w' : World} {v : Value} {ao : Option Addr} {qs : List Rat} (hc : Clean w v) (hg : w.grownBy w' v.ownBlock) (h : QCells w ao qs) (hne : ∀ b, ao = some ⟨b, 0, none⟩ → v.ownBlock ≠ some b) : QCells w' ao qs := fun i q hq => by
  obtain ⟨g, s, a, l, c, b, m, d, e, c0, c1, c2, h1⟩ := h i q hq
  have hn := hne g e
  exact ⟨g, s, a, l, c, b, m, d, e, hg.cell c0 (fun e => hn e.symm), hg.cell c1 (fun e => hn e.symm), hg.cell c2 (fun e => hn e.symm), hc.keptQ hg h1⟩
theorem Clean.keptV {w w' : World} {v u : Value} {qs : List Rat} (hc : Clean w v) (hg : w.grownBy w' v.ownBlock) (h : QsV w u qs) (hne : u.ownBlock = none ∨ u.ownBlock ≠ v.ownBlock) : QsV w' u qs := by
  obtain ⟨ao, c, rfl, hl, hC⟩ := h.opn
  refine QsV.of hl (hc.keptC hg hC fun b hb e => ?_)
  subst hb
  rcases hne with h | h
  · simp [Value.ownBlock] at h
  · exact h (by rw [e]; rfl)
theorem QsO.kept {w w' : World} {B : Nat} {v u : Value} {qs : List Rat} (hc : Clean w v) (hg : w.grownBy w' v.ownBlock) (h : QsO w B u qs) (hne : u.ownBlock = none ∨ u.ownBlock ≠ v.ownBlock) : QsO w' B u qs := by
  obtain ⟨ts, h1, h2, h3, h4⟩ := h
  refine ⟨ts, own_kept h1 hg (hne.elim .inr .inl), fun g hgb => ?_, h3, fun i t q a b => hc.keptQ hg (h4 i t q a b)⟩
  obtain ⟨cur, e, fr, hb, hn⟩ := h2 g hgb
  refine ⟨cur, e, fr, ?_, hn⟩
  rw [hg.block g (Array.getElem?_eq_some_iff.1 hb).1 (fun e => ?_)]
  · exact hb
  · rcases hne with h | h
    · rw [h] at hgb; cases hgb
    · exact h (by rw [hgb, e])

/-- append of a number to an own slice -/
theorem wp_appQ {rest : List Oper} {oa : Array Oper} {o : Oper} {a : Act} {Q : Exit → Act → World → Prop} {W : World} {s : Bool} {xo yo : Option Addr} {xl xc yl yc : Nat} (hg : o.guard = none) {sl x : Operand}
    (ho : o.op = .call { callee := .builtin .append, args := #[sl, x], argTypes := #[52, 52] }) {B : Nat} {v : Value} {qs : List Rat} {q : Rat} (hO : QsO W B v qs) (hq : QV W (.agg #[.bool s, .slice xo xl xc, .slice yo yl yc]) q)
    (hs : a.eval sl = v) {k : Nat} (hx : a.eval x = .slice (some ⟨k, 0, none⟩) 1 1) (hk : k = W.heap.size) (hlen : qs.length ≤ 1000000) (hB : B ≤ W.heap.size)
    (h : ∀ v' w', QsO w' B v' (qs ++ [q]) → Grew W v w' v' → Clean W v → wpList Tryz.prog oa Q rest (a.put o.dst v') w') : wpList Tryz.prog oa Q (o :: rest) a (W.alloc (.cells #[.bool s, .slice xo xl xc, .slice yo yl yc] 60)) := by
  obtain ⟨ts, h1, h2, h3, h4⟩ := hO
  refine wp_app3 hg ho ei_q zc_q h1 h2 hs hx hk rfl rfl rfl (by intro y hy d; simp at hy; rcases hy with rfl | rfl | rfl <;> simp [encD]) (by omega) (by omega) hB ?_
  intro v' w' hown hgrew hclean
  refine h v' w' ⟨ts ++ [(.bool s, .slice xo xl xc, .slice yo yl yc)], ?_, hclean, by simp [h3], fun i t q2 hi hq2 => ?_⟩ hgrew h2
  · rw [flatT_app, List.length_append]; exact hown
  · rcases Nat.lt_or_ge i qs.length with hlt | hge
    · rw [List.getElem?_append_left (by omega)] at hi hq2
      exact h2.keptQ hgrew.by' (h4 i t q2 hi hq2)
    · rw [List.getElem?_append_right (by omega)] at hi hq2
      have e1 : i - ts.length = 0 := by have := (List.getElem?_eq_some_iff.1 hi).1; simp at this; omega
      have e2 : i - qs.length = 0 := by omega
      rw [e1] at hi
      rw [e2] at hq2
      simp only [List.getElem?_cons_zero, Option.some.injEq] at hi hq2
      subst hi
      subst hq2
      exact h2.keptQ hgrew.by' hq
/-- append of a number, in a region that draws -/
theorem step_appQ {ops : Array Oper} {o : Oper} {a : Act} {W : World} {K : Act → World → Prop} {Q : Exit → Act → World → Prop} {E : Prop} {s : Bool} {xo yo : Option Addr} {xl xc yl yc : Nat} (hg : o.guard = none) {sl x : Operand}
    (ho : o.op = .call { callee := .builtin .append, args := #[sl, x], argTypes := #[52, 52] }) {B : Nat} {v : Value} {qs : List Rat} {q : Rat} (hO : QsO W B v qs) (hq : QV W (.agg #[.bool s, .slice xo xl xc, .slice yo yl yc]) q)
    (hs : a.eval sl = v) {k : Nat} (hx : a.eval x = .slice (some ⟨k, 0, none⟩) 1 1) (hk : k = W.heap.size) (hlen : qs.length ≤ 1000000) (hB : B ≤ W.heap.size)
    (h : ∀ v' w', QsO w' B v' (qs ++ [q]) → Grew W v w' v' → Clean W v → K (a.put o.dst v') w') : if Region.wanted o (yielded ops a.tmps) = true then Oper.wp Tryz.prog o a (W.alloc (.cells #[.bool s, .slice xo xl xc, .slice yo yl yc] 60)) K Q else E := by
  have hw : Region.wanted o (yielded ops a.tmps) = true := by simp [Region.wanted, hg]
  rw [if_pos hw]
  obtain ⟨ts, h1, h2, h3, h4⟩ := hO
  subst hk
  have hsrc : Src (W.alloc (.cells #[.bool s, .slice xo xl xc, .slice yo yl yc] 60)) (.slice (some ⟨W.heap.size, 0, none⟩) 1 1) 1 3 [.bool s, .slice xo xl xc, .slice yo yl yc] := by
    refine ⟨_, _, rfl, rfl, ?_, fun _ => ⟨_, _, rfl, fun j y hy => ?_⟩⟩
    · intro y hy
      simp at hy
      rcases hy with rfl | rfl | rfl <;> rfl
    · match j, hy with
      | 0, hy => simp at hy; subst hy; simp [World.cell?_alloc_new]
      | 1, hy => simp at hy; subst hy; simp [World.cell?_alloc_new]
      | 2, hy => simp at hy; subst hy; simp [World.cell?_alloc_new]
  have ho2 := own_ext h1 ((Ext.refl W).alloc (.cells #[.bool s, .slice xo xl xc, .slice yo yl yc] 60))
  obtain ⟨v', w', hr, g2, g3⟩ := run_app (P := Tryz.prog) (ty := o.type) ei_q ho2 hsrc (by omega) (by omega) (by simp; omega)
  have hgrew : Grew W v w' v' := by
    refine ⟨⟨g3.by'.os, g3.by'.tape, g3.by'.output, Nat.le_trans (by simp) g3.by'.size, fun k hk hn => ?_⟩, ?_⟩
    · rw [g3.by'.block k (by simp; omega) hn]; exact Below.heap_alloc W _ k hk
    · rcases g3.blk with e | e
      · exact .inl e
      · exact .inr fun k hk => by have := e k hk; simp at this; omega
  obtain ⟨i, i1, i2, i3, i4⟩ := ei_q.info
  have hcl2 : Clean w' v' := append_clean (B := B) ei_q.und i1 i2 (by rw [i3]; exact ei_q.zc) (by rw [i3]; omega) (by rw [i3]; exact ho2) (h2.alloc _) zc_q (m := 1) (by rw [i3]; rfl) (by omega) (a := ⟨W.heap.size, 0, none⟩) (c := 1) (news := [.bool s, .slice xo xl xc, .slice yo yl yc]) (by
    intro j u hu
    match j, hu with
    | 0, hy => simp at hy; subst hy; simp [Addr.add, World.cell?_alloc_new]
    | 1, hy => simp at hy; subst hy; simp [Addr.add, World.cell?_alloc_new]
    | 2, hy => simp at hy; subst hy; simp [Addr.add, World.cell?_alloc_new]) (by intro y hy; simp at hy; rcases hy with rfl | rfl | rfl <;> rfl) (by intro y hy d; simp at hy; rcases hy with rfl | rfl | rfl <;> simp [encD]) (by unfold maxLen; omega) (by rw [i4]; omega) hr
  unfold Oper.wp execOp
  simp only [ho, resolve, invoke, builtin, Sem.run_bind, Sem.run_pure, Result.andThen_ok, List.map_toArray, List.map_cons, List.map_nil, hs, hx, hr]
  refine h v' w' ⟨ts ++ [(.bool s, .slice xo xl xc, .slice yo yl yc)], ?_, hcl2, by simp [h3], fun i t q2 hi hq2 => ?_⟩ hgrew h2
  · rw [flatT_app, List.length_append]; exact g2
  · rcases Nat.lt_or_ge i qs.length with hlt | hge
    · rw [List.getElem?_append_left (by omega)] at hi hq2
      exact h2.keptQ hgrew.by' (h4 i t q2 hi hq2)
    · rw [List.getElem?_append_right (by omega)] at hi hq2
      have e1 : i - ts.length = 0 := by have := (List.getElem?_eq_some_iff.1 hi).1; simp at this; omega
      have e2 : i - qs.length = 0 := by omega
      rw [e1] at hi
      rw [e2] at hq2
      simp only [List.getElem?_cons_zero, Option.some.injEq] at hi hq2
      subst hi
      subst hq2
      exact h2.keptQ hgrew.by' hq
theorem QsO.grew {w0 w w' : World} {B : Nat} {v v' : Value} {qs : List Rat} (h : QsO w B v qs) (hg : Grew w v w' v') (he : Ext w0 w) (hB : w0.heap.size ≤ B) : Ext w0 w' :=
  hg.ext he (fun k hk => Nat.le_trans hB (h.lt k hk).1)

/-! ### a number is stored at a place -/
structure StI (w : World) (g i : Nat) (x y z : Value) : Prop where
  f0 : w.frozen? ⟨g, i * 3, none⟩ = false
  c0 : w.cell? ⟨g, i * 3, none⟩ = some x
  f1 : ∀ a, (w.setCell ⟨g, i * 3, none⟩ a).frozen? ⟨g, i * 3 + 1, none⟩ = false
  c1 : ∀ a, (w.setCell ⟨g, i * 3, none⟩ a).cell? ⟨g, i * 3 + 1, none⟩ = some y
  f2 : ∀ a b, ((w.setCell ⟨g, i * 3, none⟩ a).setCell ⟨g, i * 3 + 1, none⟩ b).frozen? ⟨g, i * 3 + 2, none⟩ = false
  c2 : ∀ a b, ((w.setCell ⟨g, i * 3, none⟩ a).setCell ⟨g, i * 3 + 1, none⟩ b).cell? ⟨g, i * 3 + 2, none⟩ = some z
theorem flatT_set : ∀ (ts : List TV) (i : Nat) (a b c : Value), i < ts.length → flatT (ts.set i (a, b, c)) = (((flatT ts).set (i * 3) a).set (i * 3 + 1) b).set (i * 3 + 2) c
  | t :: ts, 0, a, b, c, _ => rfl
  | t :: ts, i + 1, a, b, c, h => by
    have := flatT_set ts i a b c (by simpa using h)
    have e : (i + 1) * 3 = i * 3 + 3 := by omega
    rw [e, List.set_cons_succ, flatT, this]
    rfl
theorem QsO.stored {w : World} {B g n cap : Nat} {qs : List Rat} (h : QsO w B (.slice (some ⟨g, 0, none⟩) n cap) qs) {i : Nat} (hi : i < qs.length) : ∃ x y z, StI w g i x y z ∧
    ∀ s a l c b m d q, QV w (.agg #[.bool s, .slice a l c, .slice b m d]) q → ∃ w', (((w.setCell ⟨g, i * 3, none⟩ (.bool s)).setCell ⟨g, i * 3 + 1, none⟩ (.slice a l c)).setCell ⟨g, i * 3 + 2, none⟩ (.slice b m d)) = w' ∧ w.grownBy w' (some g) ∧ QsO w' B (.slice (some ⟨g, 0, none⟩) n cap) (qs.set i q) := by
  obtain ⟨ts, h1, h2, h3, h4⟩ := h
  have hn : n = qs.length := by
    rcases h1.2 with ⟨e, _⟩ | ⟨g2, cap2, cur, e, _⟩
    · simp at e
    · simp only [Value.slice.injEq] at e; exact e.2.1
  subst hn
  have s1 := fun a => h1.stored (i * 3) a
  have s2 := fun a b => (s1 a).1.stored (i * 3 + 1) b
  have s3 := fun a b c => (s2 a b).1.stored (i * 3 + 2) c
  have hti : ts[i]? = some (ts[i]'(by omega)) := List.getElem?_eq_getElem (by omega)
  obtain ⟨p0, p1, p2⟩ := flatT_get ts i _ hti
  have hfl := flatT_len ts
  have cc : ∀ {w1 : World} {xs : List Value} (_ : w1.ownsRow B 60 3 (.slice (some ⟨g, 0, none⟩) qs.length cap) qs.length xs) {j : Nat} {u : Value}, xs[j]? = some u → w1.cell? ⟨g, j, none⟩ = some u := by
    intro w1 xs hh j u hj
    have := hh.cells (g := g) rfl j u hj
    rwa [Addr.add_lit, Nat.zero_add] at this
  refine ⟨_, _, _, ⟨h1.frozenAt (i * 3), cc h1 p0, fun a => (s1 a).1.frozenAt (i * 3 + 1), fun a => cc (s1 a).1 (by rw [List.getElem?_set_ne (by omega)]; exact p1), fun a b => (s2 a b).1.frozenAt (i * 3 + 2), fun a b => cc (s2 a b).1 (by rw [List.getElem?_set_ne (by omega), List.getElem?_set_ne (by omega)]; exact p2)⟩, ?_⟩
  intro s a l c b m d q hq
  have hgr := Lib.grownBy_trans (Lib.grownBy_trans (s1 (.bool s)).2 (s2 (.bool s) (.slice a l c)).2) (s3 (.bool s) (.slice a l c) (.slice b m d)).2
  have hrow := (s3 (.bool s) (.slice a l c) (.slice b m d)).1
  refine ⟨_, rfl, hgr, ts.set i (.bool s, .slice a l c, .slice b m d), ?_, ?_, by simp [h3], fun j t q2 hj hq2 => ?_⟩
  · rw [flatT_set _ _ _ _ _ (by omega), List.length_set]; exact hrow
  · intro k hk
    simp only [Value.ownBlock, Option.some.injEq] at hk
    subst hk
    rcases hrow.2 with ⟨e, _⟩ | ⟨g2, cap2, cur, e, _, hgc, _, hcm, hcs, htk⟩
    · simp at e
    · simp only [Value.slice.injEq, Option.some.injEq, Addr.mk.injEq, and_true, true_and] at e
      obtain ⟨rfl, rfl⟩ := e
      refine ⟨cur, _, _, hgc, ?_⟩
      obtain ⟨cur0, e0, fr0, hb0, hn0⟩ := h2 g rfl
      intro j d2 hj
      have hcell : (((w.setCell ⟨g, i * 3, none⟩ (.bool s)).setCell ⟨g, i * 3 + 1, none⟩ (.slice a l c)).setCell ⟨g, i * 3 + 2, none⟩ (.slice b m d)).cell? ⟨g, j, none⟩ = some (encD d2) := by rw [cell_of_obj' hgc]; exact hj
      by_cases j2 : j = i * 3 + 2
      · have := cc hrow (j := j) (u := .slice b m d) (by rw [j2, List.getElem?_set_self (by rw [List.length_set, List.length_set]; omega)])
        rw [hcell] at this
        simp [encD] at this
      · by_cases j1 : j = i * 3 + 1
        · have := cc hrow (j := j) (u := .slice a l c) (by rw [List.getElem?_set_ne (by omega), j1, List.getElem?_set_self (by rw [List.length_set]; omega)])
          rw [hcell] at this
          simp [encD] at this
        · by_cases j0 : j = i * 3
          · have := cc hrow (j := j) (u := .bool s) (by rw [List.getElem?_set_ne (by omega), List.getElem?_set_ne (by omega), j0, List.getElem?_set_self (by omega)])
            rw [hcell] at this
            simp [encD] at this
          · have hold : w.cell? ⟨g, j, none⟩ = some (encD d2) := by
              rw [← hcell]
              rw [World.cell?_setCell_other, World.cell?_setCell_other, World.cell?_setCell_other]
              all_goals (intro e; simp at e <;> omega)
            rw [cell_of_obj' hb0] at hold
            exact hn0 j d2 hold
  · by_cases hji : j = i
    · subst hji
      rw [List.getElem?_set_self (by omega)] at hj
      rw [List.getElem?_set_self hi] at hq2
      cases hj
      cases hq2
      exact h2.keptQ (v := .slice (some ⟨g, 0, none⟩) qs.length cap) hgr hq
    · rw [List.getElem?_set_ne (by omega)] at hj hq2
      exact h2.keptQ (v := .slice (some ⟨g, 0, none⟩) qs.length cap) hgr (h4 j t q2 hj hq2)
end Go.Proofs.YtnfmknjhkpgppaaGreatDoor
/- rows of slices of rational numbers; walk: matrix.In -/
namespace Go.Proofs.YtnfmknjhkpgppaaGreatDoor
open Go.RowKit
set_option linter.unusedVariables false

theorem info_qs : (Tryz.prog.info? 52).map (fun i => (i.zero, i.size, i.bytes)) = some (some (.slice none 0 0), 1, 24) := by kernel_rfl
theorem ei_qs : EI Tryz.prog 51 52 (.slice none 0 0) 1 24 := ⟨Tryz.underlying51, info_parts info_qs, by decide, by decide⟩
theorem zc_qs : ∀ x ∈ (Value.slice none 0 0).cells.toList, ∀ d : Nat, x ≠ encD d := by
  intro x hx d
  simp [Value.cells] at hx
  subst hx
  simp [encD]

/-- append of one element of one cell, to a slice that holds no digit -/
theorem wp_app1c {P : Program} {rest : List Oper} {oa : Array Oper} {o : Oper} {a : Act} {Q : Exit → Act → World → Prop} {W : World} {x1 : Value} (hg : o.guard = none) {s x : Operand} {t e : TypeId} {z : Value} {bytes : Nat}
    (ho : o.op = .call { callee := .builtin .append, args := #[s, x], argTypes := #[t, t] }) (ei : EI P t e z 1 bytes) (hzc : ∀ x ∈ z.cells.toList, ∀ d : Nat, x ≠ encD d) {B : Nat} {v : Value} {n : Nat} {xs : List Value}
    (hown : W.ownsRow B e 1 v n xs) (hcl : Clean W v) (hs : a.eval s = v) {k : Nat} (hx : a.eval x = .slice (some ⟨k, 0, none⟩) 1 1) (hk : k = W.heap.size)
    (h1 : x1.oneCell' = true) (hd : ∀ d : Nat, x1 ≠ encD d) (hlen : n + 1 ≤ 17592186044416) (hby : (n + 1) * bytes ≤ 140737488355328) (hB : B ≤ W.heap.size)
    (h : ∀ v' w', w'.ownsRow B e 1 v' (n + 1) (xs ++ [x1]) → Grew W v w' v' → Clean w' v' → wpList P oa Q rest (a.put o.dst v') w') : wpList P oa Q (o :: rest) a (W.alloc (.cells #[x1] e)) := by
  subst hk
  have hsrc : Src (W.alloc (.cells #[x1] e)) (.slice (some ⟨W.heap.size, 0, none⟩) 1 1) 1 1 [x1] := src_new W x1 e h1
  refine wpList_plain hg fun K hK => ?_
  have ho2 := own_ext hown ((Ext.refl W).alloc (.cells #[x1] e))
  obtain ⟨v', w', hr, g2, g3⟩ := run_app (P := P) (ty := o.type) ei ho2 hsrc hlen hby (by simp; omega)
  obtain ⟨i, i1, i2, i3, i4⟩ := ei.info
  subst i4
  have hcl2 : Clean w' v' := append_clean (B := B) ei.und i1 i2 (by rw [i3]; exact ei.zc) (by rw [i3]; omega) (by rw [i3]; exact ho2) (hcl.alloc _) hzc (m := 1) (by rw [i3]; rfl) (by omega) (a := ⟨W.heap.size, 0, none⟩) (c := 1) (news := [x1]) (by
    intro j u hu
    match j, hu with
    | 0, hy => simp at hy; subst hy; simp [Addr.add, World.cell?_alloc_new]) (by intro y hy; rw [List.mem_singleton] at hy; subst hy; exact h1) (by intro y hy; rw [List.mem_singleton] at hy; subst hy; exact hd) (by unfold maxLen; omega) hby hr
  unfold Oper.wp execOp
  simp only [ho, resolve, invoke, builtin, Sem.run_bind, Sem.run_pure, Result.andThen_ok, List.map_toArray, List.map_cons, List.map_nil, hs, hx, hr]
  refine hK _ _ (h v' w' g2 ⟨⟨g3.by'.os, g3.by'.tape, g3.by'.output, Nat.le_trans (by simp) g3.by'.size, fun k hk hn => ?_⟩, ?_⟩ hcl2)
  · rw [g3.by'.block k (by simp; omega) hn]; exact Below.heap_alloc W _ k hk
  · rcases g3.blk with e | e
    · exact .inl e
    · exact .inr fun k hk => by have := e k hk; simp at this; omega

/-- lies in an old block, and not in the one of a slice -/
def Away (w : World) (u v : Value) : Prop := ∀ k, u.ownBlock = some k → k < w.heap.size ∧ v.ownBlock ≠ some k
theorem Away.ext {w w' : World} {u v : Value} (h : Away w u v) (hx : Ext w w') : Away w' u v := fun k hk => ⟨Nat.lt_of_lt_of_le (h k hk).1 hx.size, (h k hk).2⟩
theorem Away.grew {w w' : World} {u v v' : Value} (h : Away w u v) (hg : Grew w v w' v') : Away w' u v' := fun k hk => by
  obtain ⟨h1, h2⟩ := h k hk
  refine ⟨Nat.lt_of_lt_of_le h1 hg.by'.size, ?_⟩
  rcases hg.blk with e | e
  · rw [e]; exact h2
  · intro e2
    have := e k e2
    omega
theorem Away.ne {w : World} {u v : Value} (h : Away w u v) : u.ownBlock = none ∨ u.ownBlock ≠ v.ownBlock := by
  cases hu : u.ownBlock with
  | none => exact .inl rfl
  | some k => exact .inr fun e => (h k hu).2 e.symm

theorem Clean.keptA {w w' : World} {v u : Value} {qs : List Rat} (hc : Clean w v) (hg : w.grownBy w' v.ownBlock) (h : QsV w u qs) (ha : qs = [] ∨ Away w u v) : QsV w' u qs := by
  rcases ha with rfl | ha
  · obtain ⟨ao, c, rfl, hl, hC⟩ := h.opn
    exact QsV.of hl fun i q hq => by simp at hq
  · exact hc.keptV hg h ha.ne
/-- a slice that reads lies in an old block (an empty one too, if the call has laid it) -/
theorem QsV.ltNe {w : World} {v : Value} {qs : List Rat} (h : QsV w v qs) (hn : qs ≠ []) : ∀ k, v.ownBlock = some k → k < w.heap.size := by
  obtain ⟨ao, c, rfl, hl, hC⟩ := h.opn
  intro k hk
  cases qs with
  | nil => exact absurd rfl hn
  | cons q t =>
    obtain ⟨g, s, a, l, c, b, m, d, e, c0, c1, c2, h1⟩ := hC 0 q rfl
    subst e
    simp only [Value.ownBlock, Option.some.injEq] at hk
    subst hk
    exact World.block_lt_of_cell? w _ c0
def QssV (w : World) (v : Value) (m : List (List Rat)) : Prop := ∃ us, Row w v us ∧ us.length = m.length ∧ ∀ (i : Nat) u qs, us[i]? = some u → m[i]? = some qs → QsV w u qs
theorem QssV.ext {w w' : World} {v : Value} {m : List (List Rat)} (h : QssV w v m) (hx : Ext w w') : QssV w' v m := by
  obtain ⟨us, h1, h2, h3⟩ := h
  exact ⟨us, h1.ext hx, h2, fun i u qs a b => (h3 i u qs a b).ext hx⟩
def QssO (w : World) (B : Nat) (v : Value) (m : List (List Rat)) : Prop := ∃ us, w.ownsRow B 52 1 v m.length us ∧ Clean w v ∧ us.length = m.length ∧ ∀ (i : Nat) u qs, us[i]? = some u → m[i]? = some qs → QsV w u qs ∧ (qs = [] ∨ Away w u v)
theorem QssO.nil (w : World) (B : Nat) : QssO w B (.slice none 0 0) [] := ⟨[], World.ownsRow_nil _ _ _ _, Clean.nil _, rfl, fun i u qs h => by simp at h⟩
theorem QssO.ext {w w' : World} {B : Nat} {v : Value} {m : List (List Rat)} (h : QssO w B v m) (hx : Ext w w') : QssO w' B v m := by
  obtain ⟨us, h1, h2, h3, h4⟩ := h
  exact ⟨us, own_ext h1 hx, h2.ext hx, h3, fun i u qs a b => ⟨(h4 i u qs a b).1.ext hx, (h4 i u qs a b).2.imp id (·.ext hx)⟩⟩
theorem QssO.toV {w : World} {B : Nat} {v : Value} {m : List (List Rat)} (h : QssO w B v m) (hl : m.length ≤ 17592186044416) : QssV w v m := by
  obtain ⟨us, h1, h2, h3, h4⟩ := h
  exact ⟨us, own_row h1 hl, h3, fun i u qs a b => (h4 i u qs a b).1⟩
theorem QssO.lt {w : World} {B : Nat} {v : Value} {m : List (List Rat)} (h : QssO w B v m) : ∀ k, v.ownBlock = some k → B ≤ k ∧ k < w.heap.size := by
  obtain ⟨us, h1, h2, h3, h4⟩ := h
  exact fun k hk => h1.lt k hk
theorem QssO.grew {w0 w w' : World} {B : Nat} {v v' : Value} {m : List (List Rat)} (h : QssO w B v m) (hg : Grew w v w' v') (he : Ext w0 w) (hB : w0.heap.size ≤ B) : Ext w0 w' :=
  hg.ext he (fun k hk => Nat.le_trans hB (h.lt k hk).1)
/-- append of a slice of numbers to an own slice of such -/
theorem wp_appQs {rest : List Oper} {oa : Array Oper} {o : Oper} {a : Act} {Q : Exit → Act → World → Prop} {W : World} {yo : Option Addr} {yl yc : Nat} (hg : o.guard = none) {sl x : Operand}
    (ho : o.op = .call { callee := .builtin .append, args := #[sl, x], argTypes := #[51, 51] }) {B : Nat} {v : Value} {m : List (List Rat)} {qs : List Rat} (hO : QssO W B v m) (hq : QsV W (.slice yo yl yc) qs) (haw : qs = [] ∨ Away W (.slice yo yl yc) v)
    (hs : a.eval sl = v) {k : Nat} (hx : a.eval x = .slice (some ⟨k, 0, none⟩) 1 1) (hk : k = W.heap.size) (hlen : m.length ≤ 1000000) (hB : B ≤ W.heap.size)
    (h : ∀ v' w', QssO w' B v' (m ++ [qs]) → Grew W v w' v' → Clean W v → wpList Tryz.prog oa Q rest (a.put o.dst v') w') : wpList Tryz.prog oa Q (o :: rest) a (W.alloc (.cells #[.slice yo yl yc] 52)) := by
  obtain ⟨us, h1, h2, h3, h4⟩ := hO
  refine wp_app1c hg ho ei_qs zc_qs h1 h2 hs hx hk rfl (by intro d; simp [encD]) (by omega) (by omega) hB ?_
  intro v' w' hown hgrew hclean
  refine h v' w' ⟨us ++ [.slice yo yl yc], ?_, hclean, by simp [h3], fun i u q2 hi hq2 => ?_⟩ hgrew h2
  · rw [List.length_append]; exact hown
  · rcases Nat.lt_or_ge i m.length with hlt | hge
    · rw [List.getElem?_append_left (by omega)] at hi hq2
      obtain ⟨g1, g2⟩ := h4 i u q2 hi hq2
      exact ⟨h2.keptA hgrew.by' g1 g2, g2.imp id (·.grew hgrew)⟩
    · rw [List.getElem?_append_right (by omega)] at hi hq2
      have e1 : i - us.length = 0 := by have := (List.getElem?_eq_some_iff.1 hi).1; simp at this; omega
      have e2 : i - m.length = 0 := by omega
      rw [e1] at hi
      rw [e2] at hq2
      simp only [List.getElem?_cons_zero, Option.some.injEq] at hi hq2
      subst hi
      subst hq2
      exact ⟨h2.keptA hgrew.by' hq haw, haw.imp id (·.grew hgrew)⟩
theorem QssO.away {w w' : World} {B : Nat} {u v : Value} {m : List (List Rat)} {qs : List Rat} (h : QssO w B v m) (hq : QsV w' u qs) (hu : ∀ k, u.ownBlock = some k → w.heap.size ≤ k) : qs = [] ∨ Away w' u v := by
  by_cases hn : qs = []
  · exact .inl hn
  · exact .inr fun k hk => ⟨hq.ltNe hn k hk, fun e => by have := (h.lt k e).2; have := hu k hk; omega⟩

set_option maxHeartbeats 1600000 in
set_option maxRecDepth 100000 in
theorem mIn_any (v : Value) (m : List (List ByteArray)) (w : World) (hv : Rows Value.string w v m) (hok : ∀ l ∈ m, ∀ s ∈ l, RatOk s ∧ s.size ≤ 9223372036854775806) (hl : m.length ≤ 1000000) (hll : ∀ l ∈ m, l.length ≤ 1000000) :
    Calls Tryz.prog 26 #[v] w fun e w' => ∃ u, e = .returned u ∧ QssV w' u (m.map (·.map ratOf)) ∧ Ext w w' := by
  obtain ⟨wo, rfl⟩ : ∃ wo : World, wo = w := ⟨_, rfl⟩
  obtain ⟨us, hr, hul, hel⟩ := hv
  obtain ⟨ao, c, rfl, _, hlen, _, hc⟩ := hr
  have HC := Lib.hid hc
  have HEL := Lib.hid hel
  have HUL := Lib.hid hul
  have HOK := Lib.hid hok
  have HLL := Lib.hid hll
  have hu1 : us.length ≤ 1000000 := by omega
  clear hc hel hok hll hul hl
  go_enter Tryz.func26, Tryz.ntmps26
  go_wp2_with fail
  go_loopw [3, 8] (fun ov iv wr => ∃ (i : Nat), i ≤ us.length ∧ iv = .int .i64 i ∧ Hid (QssO wr wo.heap.size ov ((m.take i).map (·.map ratOf))) ∧ Ext wo wr) (fun _ iv _ => us.length - (intOf iv).toNat)
  case atStart => exact ⟨0, Nat.zero_le _, rfl, QssO.nil _ _, Ext.refl _⟩
  case round =>
    obtain ⟨i, hi, rfl, HO, X⟩ := hrel
    by_cases hlt : i < us.length
    · obtain ⟨u, d1, d2, d3⟩ := get_lt hlt
      obtain ⟨l, q1, q2, q3⟩ := get_lt (xs := m) (k := i) (by rw [← HUL.out]; exact hlt)
      obtain ⟨b, off, rfl, hc0⟩ := HC.out.ext X i u d1.out
      have hcell : wr.cell? ⟨b, off + i, none⟩ = some u := hc0
      have hlm := List.mem_of_getElem? q1.out
      have HIN := Lib.hid (fun W (hx : Ext wo W) => ratIn_any u l W ((HEL.out i u l d1.out q1.out).ext hx) (HOK.out l hlm) (HLL.out l hlm))
      obtain ⟨ao2, c2, rfl, hlen2, hc2⟩ := (HEL.out i u l d1.out q1.out).open
      have hki : (i : Int) < (us.length : Int) := by omega
      have HML : Hid (((m.take i).map (·.map ratOf)).length ≤ 1000000) := by show _ ≤ _; rw [List.length_map, List.length_take]; omega
      have HTK : Hid ((m.take (i + 1)).map (·.map ratOf) = (m.take i).map (·.map ratOf) ++ [l.map ratOf]) := by show _ = _; rw [q3.out, List.map_append]; rfl
      generalize (m.take i).map (·.map ratOf) = M1 at *
      generalize l.map ratOf = qs at *
      clear hc0 hlt hc2 hlm
      go_wp2_with fail
      refine (HIN.out _ X).mono ?_
      rintro e w4 ⟨u4, rfl, h4, hf4, X4⟩
      obtain ⟨yo, yc, rfl, hyl, hyc⟩ := h4.opn
      have HO4 := HO.out.ext X4
      have haw := HO.out.away h4 hf4
      have XA := X.trans X4
      have hsz := XA.size
      clear hyc HO
      go_wp2_with (at_builtin; refine wp_appQs (sl := .tmp 12) (x := .tmp 15) rfl rfl HO4 h4 haw rfl rfl rfl HML.out hsz ?_; intro v' w' hown hgrew hclean)
      have HE := Lib.hid (QssO.grew HO4 hgrew XA (Nat.le_refl _))
      rw [← HTK.out] at hown
      have HOW := Lib.hid hown
      go_roundw
      case rel => exact ⟨i + 1, by omega, by go_num, HOW, HE.out⟩
      case measure => simp [intOf] <;> omega
    · have hil : us.length = i := by omega
      have hmm : m.take i = m := by rw [← hil, HUL.out]; exact List.take_length
      have HR0 := HO.out
      rw [hmm] at HR0
      have HR := Lib.hid (HR0.toV (by rw [List.length_map, ← HUL.out]; omega))
      clear HR0
      clear hlt hmm HO
      go_wp2_with fail
      go_ret
      exact ⟨_, rfl, HR.out, X⟩
end Go.Proofs.YtnfmknjhkpgppaaGreatDoor
/- walk: matrix.DotOf -/
namespace Go.Proofs.YtnfmknjhkpgppaaGreatDoor
open Go.RowKit
set_option linter.unusedVariables false

theorem RB_QB {k : Nat} {q : Rat} (h : RB k q) (hk : k ≤ 100000000) : QB q := ⟨dig_le10 h.1 hk, dig_le10 h.2 hk⟩
theorem QCells.lt {w : World} {ao : Option Addr} {qs : List Rat} (h : QCells w ao qs) : ∀ b, ao = some ⟨b, 0, none⟩ → qs ≠ [] → b < w.heap.size := by
  intro b hb hn
  cases qs with
  | nil => exact absurd rfl hn
  | cons q t =>
    obtain ⟨g, s, a, l, c, b2, m, d, e, c0, c1, c2, h1⟩ := h 0 q rfl
    rw [hb] at e
    simp only [Option.some.injEq, Addr.mk.injEq, and_true] at e
    subst e
    exact World.block_lt_of_cell? w _ c0
theorem Clean.keptD {w w' : World} {v : Value} {ao : Option Addr} {qs : List Rat} (hc : Clean w v) (hg : w.grownBy w' v.ownBlock) (h : QCells w ao qs) (hne : ∀ b, ao = some ⟨b, 0, none⟩ → qs ≠ [] → v.ownBlock ≠ some b) : QCells w' ao qs := by
  by_cases hn : qs = []
  · subst hn; exact fun i q hq => by simp at hq
  · exact hc.keptC hg h fun b hb => hne b hb hn
/-- the sum of products -/
def dotQ : List Rat → List Rat → Rat
  | q :: t, r :: s => q * r + dotQ t s
  | _, _ => 0
/-- one number in a block of the call's own -/
structure Acc (w : World) (O : Nat) (s : Bool) (xo : Option Addr) (xl xc : Nat) (yo : Option Addr) (yl yc : Nat) (q : Rat) : Prop where
  row : w.ownsRow O 60 3 (.slice (some ⟨O, 0, none⟩) 1 1) 1 [.bool s, .slice xo xl xc, .slice yo yl yc]
  val : QV w (.agg #[.bool s, .slice xo xl xc, .slice yo yl yc]) q
theorem Acc.ext {w w' : World} {O : Nat} {s : Bool} {xo yo : Option Addr} {xl xc yl yc : Nat} {q : Rat} (h : Acc w O s xo xl xc yo yl yc q) (hx : Ext w w') : Acc w' O s xo xl xc yo yl yc q := ⟨own_ext h.row hx, h.val.ext hx⟩
theorem Acc.new {w : World} {s : Bool} {xo yo : Option Addr} {xl xc yl yc : Nat} {q : Rat} (h : QV w (.agg #[.bool s, .slice xo xl xc, .slice yo yl yc]) q) {O : Nat} (hO : w.heap.size = O) : Acc (w.alloc (.cells #[.bool s, .slice xo xl xc, .slice yo yl yc] 60)) O s xo xl xc yo yl yc q := by
  subst hO
  exact ⟨World.ownsRow_lit (base := w.heap.size) (e := 60) (size := 3) w #[.bool s, .slice xo xl xc, .slice yo yl yc] 1 (Nat.le_refl _) (by unfold maxLen; omega) (by simp), h.ext ((Ext.refl w).alloc _)⟩
theorem Acc.c0 {w : World} {O : Nat} {s : Bool} {xo yo : Option Addr} {xl xc yl yc : Nat} {q : Rat} (h : Acc w O s xo xl xc yo yl yc q) : w.cell? ⟨O, 0, none⟩ = some (.bool s) := cell3 h.row (j := 0) rfl
theorem Acc.c1 {w : World} {O : Nat} {s : Bool} {xo yo : Option Addr} {xl xc yl yc : Nat} {q : Rat} (h : Acc w O s xo xl xc yo yl yc q) : w.cell? ⟨O, 1, none⟩ = some (.slice xo xl xc) := cell3 h.row (j := 1) rfl
theorem Acc.c2 {w : World} {O : Nat} {s : Bool} {xo yo : Option Addr} {xl xc yl yc : Nat} {q : Rat} (h : Acc w O s xo xl xc yo yl yc q) : w.cell? ⟨O, 2, none⟩ = some (.slice yo yl yc) := cell3 h.row (j := 2) rfl
theorem Acc.clean {w : World} {O : Nat} {s : Bool} {xo yo : Option Addr} {xl xc yl yc : Nat} {q : Rat} (h : Acc w O s xo xl xc yo yl yc q) : Clean w (.slice (some ⟨O, 0, none⟩) 1 1) := clean_full h.row (by intro y hy d; simp at hy; rcases hy with rfl | rfl | rfl <;> simp [encD])
theorem Acc.put {w : World} {O : Nat} {s : Bool} {xo yo : Option Addr} {xl xc yl yc : Nat} {q : Rat} (h : Acc w O s xo xl xc yo yl yc q) {s2 : Bool} {xo2 yo2 : Option Addr} {xl2 xc2 yl2 yc2 : Nat} {r : Rat} (hr : QV w (.agg #[.bool s2, .slice xo2 xl2 xc2, .slice yo2 yl2 yc2]) r) :
    ∃ w7, (((w.setCell ⟨O, 0, none⟩ (.bool s2)).setCell ⟨O, 1, none⟩ (.slice xo2 xl2 xc2)).setCell ⟨O, 2, none⟩ (.slice yo2 yl2 yc2)) = w7 ∧ w.grownBy w7 (some O) ∧ Acc w7 O s2 xo2 xl2 xc2 yo2 yl2 yc2 r := by
  have T := st3 h.row
  have hgr := T.by' (.bool s2) (.slice xo2 xl2 xc2) (.slice yo2 yl2 yc2)
  exact ⟨_, rfl, hgr, T.own _ _ _, h.clean.keptQ (v := .slice (some ⟨O, 0, none⟩) 1 1) hgr hr⟩

set_option maxHeartbeats 3200000 in
set_option maxRecDepth 100000 in
theorem dotOf_any (u v : Value) (qs rs : List Rat) (k m : Nat) (w : World) (hu : QsV w u qs) (hv : QsV w v rs) (hl : qs.length ≤ rs.length) (hq : ∀ q ∈ qs, RB k q) (hr : ∀ r ∈ rs, RB m r) (hb : (k + m + 1) * qs.length + k + m + 1 ≤ 10000000) :
    Calls Tryz.prog 46 #[u, v] w fun e w' => ∃ r, e = .returned r ∧ QV w' r (dotQ qs rs) ∧ Ext w w' := by
  obtain ⟨ao, c, rfl, hql, hC⟩ := hu.opn
  obtain ⟨bo, d, rfl, hrl, hD⟩ := hv.opn
  have HN1 := Lib.hid hC.lt
  have HN2 := Lib.hid hD.lt
  have HC := Lib.hid hC
  have HD := Lib.hid hD
  have HQ := Lib.hid hq
  have HR := Lib.hid hr
  obtain ⟨K, hK⟩ : ∃ K, k + m + 1 = K := ⟨_, rfl⟩
  have HK := Lib.hid hK
  have HBD : Hid (K * qs.length + K ≤ 10000000) := by show _ ≤ _; rw [← hK]; omega
  obtain ⟨F, hF⟩ : ∃ F, dotQ qs rs = F := ⟨_, rfl⟩
  rw [hF]
  have HF := Lib.hid hF
  have HO0 := Lib.hid (fun W => qOf_any 0 W (by omega) (by omega))
  clear hC hD hu hv hq hr hF hK hb
  go_enter Tryz.func46, Tryz.ntmps46
  go_wp2_with fail
  refine (HO0.out _).mono ?_
  rintro e w2 ⟨u2, rfl, h2, X2⟩
  obtain ⟨s2, ao3, l2, c3, bo2, m2, d2, rfl, _, _, _⟩ := h2.opn
  obtain ⟨O, hO⟩ : ∃ O, w2.heap.size = O := ⟨_, rfl⟩
  have hA := Lib.hid (Acc.new h2 hO)
  have XO := X2.alloc (.cells #[.bool s2, .slice ao3 l2 c3, .slice bo2 m2 d2] 60)
  have hwO : w.heap.size < O := by have := X2.size; simp at this; omega
  have hO1 : (w.alloc (.cells #[.bool false, .slice none 0 0, .slice none 0 0] 60)).heap.size ≤ O := by rw [← hO]; exact X2.size
  have XW : Ext w (w2.alloc (.cells #[.bool s2, .slice ao3 l2 c3, .slice bo2 m2 d2] 60)) := ((Ext.refl w).alloc _).trans XO
  clear h2 X2
  go_wp2_with fail
  clear hO
  go_loopw [11] (fun iv wr => ∃ (i : Nat) (acc : Rat) (s : Bool) (xo : Option Addr) (xl xc : Nat) (yo : Option Addr) (yl yc : Nat), i ≤ qs.length ∧ iv = .int .i64 i ∧ Hid (Acc wr O s xo xl xc yo yl yc acc) ∧ Hid (RB (K * i + 1) acc) ∧
    Ext (w.alloc (.cells #[.bool false, .slice none 0 0, .slice none 0 0] 60)) wr ∧ Hid (QCells wr ao qs) ∧ Hid (QCells wr bo rs) ∧ Hid (acc + dotQ (qs.drop i) (rs.drop i) = F)) (fun iv _ => qs.length - (intOf iv).toNat)
  case atStart => exact ⟨0, 0, s2, ao3, l2, c3, bo2, m2, d2, Nat.zero_le _, rfl, hA, RB_zero, XO, Lib.hid (HC.out.ext XW), Lib.hid (HD.out.ext XW), by show _ = _; rw [List.drop_zero, List.drop_zero, Rat.zero_add]; exact HF.out⟩
  case round =>
    obtain ⟨i, acc, s, xo, xl, xc, yo, yl, yc, hi, rfl, HA, HAB, X, HCE, HDE, HI⟩ := hrel
    by_cases hlt : i < qs.length
    · obtain ⟨q, q1, q2, q3⟩ := get_lt hlt
      obtain ⟨r, r1, r2, r3⟩ := get_lt (show i < rs.length by omega)
      obtain ⟨g, s5, ao5, l5, c5, bo5, m5, d5, rfl, e0, e1, e2, hq5⟩ := HCE.out i q q1.out
      obtain ⟨g2, s7, ao7, l7, c7, bo7, m7, d7, rfl, y0, y1, y2, hr7⟩ := HDE.out i r r1.out
      have rbq := HQ.out q (List.mem_of_getElem? q1.out)
      have rbr := HR.out r (List.mem_of_getElem? r1.out)
      have hKi : K * (i + 1) + 1 = (K * i + 1) + K := by rw [Nat.mul_succ]; omega
      have hKl : K * i ≤ K * qs.length := Nat.mul_le_mul_left _ hi
      have hbd := HBD.out
      have hkk := HK.out
      have HML := Lib.hid (fun (u v : Value) W hu hv => qMul_any u v q r W hu hv (RB_QB rbq (by omega)) (RB_QB rbr (by omega)))
      have HAD := Lib.hid (fun (u v : Value) W hu hv => qAdd_any u v acc (q * r) W hu hv (RB_QB HAB.out (by omega)) (RB_QB (RB_mul rbq rbr) (by omega)))
      have HBN : Hid (RB (K * (i + 1) + 1) (acc + q * r)) := by
        show RB _ _
        exact (RB_add HAB.out (RB_mul rbq rbr)).mono (by omega)
      have HBS : Hid (RB (K * (i + 1) + 1) acc) := by
        show RB _ _
        exact HAB.out.mono (by omega)
      have HSG1 := Lib.hid (fun (x : Value) W hx => qSign_any x q W hx)
      have HSG2 := Lib.hid (fun (x : Value) W hx => qSign_any x r W hx)
      have hi2 := HI.out
      rw [q2.out, r2.out, dotQ] at hi2
      have HIN : Hid ((acc + q * r) + dotQ (qs.drop (i + 1)) (rs.drop (i + 1)) = F) := by show _ = _; rw [Rat.add_assoc]; exact hi2
      have HIS : Hid (q.num.sign = 0 ∨ r.num.sign = 0 → acc + dotQ (qs.drop (i + 1)) (rs.drop (i + 1)) = F) := fun h => by
        have h0 : q * r = 0 := by
          rcases h with h | h
          · rw [Rat.num_eq_zero.1 (Int.sign_eq_zero_iff_zero.1 h), Rat.zero_mul]
          · rw [Rat.num_eq_zero.1 (Int.sign_eq_zero_iff_zero.1 h), Rat.mul_zero]
        rwa [h0, Rat.zero_add] at hi2
      generalize q.num.sign = z1 at *
      generalize r.num.sign = z2 at *
      have hki : (i : Int) < (qs.length : Int) := by omega
      have hkr : (i : Int) < (rs.length : Int) := by omega
      obtain ⟨T7, hT7⟩ : ∃ T7, wr.heap.size = T7 := ⟨_, rfl⟩
      obtain ⟨W3, hW3⟩ : ∃ W3, wr.alloc (.cells #[.bool s5, .slice ao5 l5 c5, .slice bo5 m5 d5] 60) = W3 := ⟨_, rfl⟩
      have XL : Ext wr W3 := by rw [← hW3]; exact (Ext.refl wr).alloc _
      have t0 : W3.cell? ⟨T7, 0, none⟩ = some (.bool s5) := by rw [← hW3, ← hT7]; simp [go_sem]
      have t1 : W3.cell? ⟨T7, 1, none⟩ = some (.slice ao5 l5 c5) := by rw [← hW3, ← hT7]; simp [go_sem]
      have t2 : W3.cell? ⟨T7, 2, none⟩ = some (.slice bo5 m5 d5) := by rw [← hW3, ← hT7]; simp [go_sem]
      have y0 := XL.cell y0
      have y1 := XL.cell y1
      have y2 := XL.cell y2
      have HQ5 := Lib.hid (hq5.ext XL)
      have HR7 := Lib.hid (hr7.ext XL)
      clear hq5 hr7 hlt rbq rbr hi2 hKi hKl hbd hkk
      go_wp2_with fail
      clear hT7 hW3 e0 e1 e2
      refine (HSG1.out _ _ HQ5.out).mono ?_
      rintro e w3 ⟨rfl, X3⟩
      have t0 := X3.cell t0
      have t1 := X3.cell t1
      have t2 := X3.cell t2
      have y0 := X3.cell y0
      have y1 := X3.cell y1
      have y2 := X3.cell y2
      have X03 := XL.trans X3
      by_cases hz1 : z1 = 0
      · have hb1 : (z1 != 0) = false := by simp [hz1]
        have HI2 := Lib.hid (HIS.out (.inl hz1))
        have HS := Lib.hid (HA.out.ext X03)
        have XN := X.trans X03
        have HCN := Lib.hid (HCE.out.ext X03)
        have HDN := Lib.hid (HDE.out.ext X03)
        have HB2 := HBS
        clear t0 t1 t2 y0 y1 y2
        go_wp2_with fail
        go_roundw
        case rel => exact ⟨i + 1, acc, s, xo, xl, xc, yo, yl, yc, by omega, by go_num, HS, HB2, XN, HCN, HDN, HI2⟩
        case measure => simp [intOf] <;> omega
      have hb1 : (z1 != 0) = true := by simp [hz1]
      go_wp2_with fail
      refine (HSG2.out _ _ (HR7.out.ext X3)).mono ?_
      rintro e w4 ⟨rfl, X4⟩
      have t0 := X4.cell t0
      have t1 := X4.cell t1
      have t2 := X4.cell t2
      have y0 := X4.cell y0
      have y1 := X4.cell y1
      have y2 := X4.cell y2
      have X04 := X03.trans X4
      by_cases hz2 : z2 = 0
      · have hb2 : (z2 != 0) = false := by simp [hz2]
        have HI2 := Lib.hid (HIS.out (.inr hz2))
        have HS := Lib.hid (HA.out.ext X04)
        have XN := X.trans X04
        have HCN := Lib.hid (HCE.out.ext X04)
        have HDN := Lib.hid (HDE.out.ext X04)
        have HB2 := HBS
        clear t0 t1 t2 y0 y1 y2
        go_wp2_with fail
        go_roundw
        case rel => exact ⟨i + 1, acc, s, xo, xl, xc, yo, yl, yc, by omega, by go_num, HS, HB2, XN, HCN, HDN, HI2⟩
        case measure => simp [intOf] <;> omega
      have hb2 : (z2 != 0) = true := by simp [hz2]
      have HA4 := Lib.hid (HA.out.ext X04)
      have HC4 := Lib.hid (HCE.out.ext X04)
      have HD4 := Lib.hid (HDE.out.ext X04)
      have HQ4 := Lib.hid (HQ5.out.ext (X3.trans X4))
      have HR4 := Lib.hid (HR7.out.ext (X3.trans X4))
      have XA := X.trans X04
      have k0 := HA4.out.c0
      have k1 := HA4.out.c1
      have k2 := HA4.out.c2
      have HNC : Hid (∀ b, (some ⟨g, 0, none⟩ : Option Addr) = some ⟨b, 0, none⟩ → qs ≠ [] → (Value.slice (some ⟨O, 0, none⟩) 1 1).ownBlock ≠ some b) := fun b hb hn e => by
        have := HN1.out b hb hn
        simp only [Value.ownBlock, Option.some.injEq] at e
        omega
      have HND : Hid (∀ b, (some ⟨g2, 0, none⟩ : Option Addr) = some ⟨b, 0, none⟩ → rs ≠ [] → (Value.slice (some ⟨O, 0, none⟩) 1 1).ownBlock ≠ some b) := fun b hb hn e => by
        have := HN2.out b hb hn
        simp only [Value.ownBlock, Option.some.injEq] at e
        omega
      clear hz1 hz2 HIS HBS X03 X04 X3 X4 XL X HA HCE HDE HQ5 HR7
      go_wp2_with fail
      go_region_law (first
        | (go_simp; go_at_call 77; refine (HML.out _ _ _ (by exact HQ4.out.ext (Ext.refl w4).drew) (by exact HR4.out.ext (Ext.refl w4).drew)).mono ?_; rintro e wm ⟨um, rfl, hm, Ym⟩; obtain ⟨s8, ao8, l8, c8, bo8, m8, d8, rfl, _, _, _⟩ := hm.opn; have Xm : Ext w4 wm := (Ext.refl w4).drew.trans Ym; have k0 := Xm.cell k0; have k1 := Xm.cell k1; have k2 := Xm.cell k2; have HM := Lib.hid hm; clear hm)
        | (go_simp; go_at_call 76; refine (HAD.out _ _ _ (by exact HA4.out.val.ext Xm) (by exact HM.out)).mono ?_; rintro e wa ⟨ua, rfl, ha, Ya⟩; obtain ⟨s9, ao9, l9, c9, bo9, m9, d9, rfl, _, _, _⟩ := ha.opn; have Xa : Ext w4 wa := Xm.trans Ya; have HV := Lib.hid ha; have HAa := Lib.hid (HA4.out.ext Xa); have T := st3 HAa.out.row; have f0 := T.f0; have c0 := T.c0; have f1 := T.f1; have c1 := T.c1; have f2 := T.f2; have c2 := T.c2; clear ha T))
      all_goals
        obtain ⟨w7, h7, hgr, hput⟩ := HAa.out.put HV.out
        have HCL := HAa.out.clean
        rw [h7]
        have HP := Lib.hid hput
        have HC7 := Lib.hid (HCL.keptD (v := .slice (some ⟨O, 0, none⟩) 1 1) hgr (HC4.out.ext Xa) HNC.out)
        have HD7 := Lib.hid (HCL.keptD (v := .slice (some ⟨O, 0, none⟩) 1 1) hgr (HD4.out.ext Xa) HND.out)
        have X7 := (XA.trans Xa).grown hgr hO1
        clear h7 hput HCL f0 c0 f1 c1 f2 c2 k0 k1 k2 t0 t1 t2 y0 y1 y2 hgr
        go_wp2_with fail
        go_roundw
        case rel => exact ⟨i + 1, acc + q * r, s9, ao9, l9, c9, bo9, m9, d9, by omega, by go_num, HP, HBN, X7, HC7, HD7, HIN⟩
        case measure => simp [intOf] <;> omega
    · have hil : qs.length = i := by omega
      have hi2 := HI.out
      rw [← hil, List.drop_length] at hi2
      have hd0 : dotQ [] (rs.drop qs.length) = 0 := by cases rs.drop qs.length <;> rfl
      rw [hd0, Rat.add_zero] at hi2
      have k0 := HA.out.c0
      have k1 := HA.out.c1
      have k2 := HA.out.c2
      have R := res3 (w := w) (g := w.heap.size) rfl (Ext.refl w) X
      have f0 := R.f0
      have c0 := R.c0
      have f1 := R.f1
      have c1 := R.c1
      have f2 := R.f2
      have e2 := R.c2
      have R := Lib.hid R
      subst hi2
      clear hlt hd0
      go_wp2_with fail
      refine bodyPost_ret (v := .agg #[.bool s, .slice xo xl xc, .slice yo yl yc]) (by simp [results, Tryz.results46, go_sem, R.out.d0, R.out.d1, R.out.d2]) rfl ?_
      exact ⟨_, rfl, R.out.q _ _ _ HA.out.val, R.out.ext _ _ _⟩
end Go.Proofs.YtnfmknjhkpgppaaGreatDoor
/- walk: matrix.Columns -/
namespace Go.Proofs.YtnfmknjhkpgppaaGreatDoor
open Go.RowKit
set_option linter.unusedVariables false

/-- column k of rows -/
def colQ (m : List (List Rat)) (k : Nat) : List Rat := m.map (·.getD k 0)
def colsQ (m : List (List Rat)) (n : Nat) : List (List Rat) := (List.range n).map (colQ m)

set_option maxHeartbeats 1600000 in
set_option maxRecDepth 100000 in
theorem columns_any (v : Value) (m : List (List Rat)) (n : Nat) (w : World) (hv : QssV w v m) (hl : m.length ≤ 1000000) (hn : n ≤ 1000000) (hw : ∀ r ∈ m, n ≤ r.length) :
    Calls Tryz.prog 47 #[v, .int .i64 n] w fun e w' => ∃ u, e = .returned u ∧ QssV w' u (colsQ m n) ∧ Ext w w' := by
  obtain ⟨wo, rfl⟩ : ∃ wo : World, wo = w := ⟨_, rfl⟩
  obtain ⟨us, hr, hul, hel⟩ := hv
  obtain ⟨ao, c, rfl, _, hlen, _, hc⟩ := hr
  have HC := Lib.hid hc
  have HEL := Lib.hid hel
  have HUL := Lib.hid hul
  have HW := Lib.hid hw
  have hu1 : us.length ≤ 1000000 := by omega
  have HCL : Hid ((colsQ m n).length = n) := by show _ = _; unfold colsQ; rw [List.length_map, List.length_range]
  have HCG : Hid (∀ i, i < n → (colsQ m n)[i]? = some (colQ m i)) := fun i hi => by unfold colsQ; rw [List.getElem?_map, List.getElem?_range hi]; rfl
  generalize colsQ m n = M at *
  clear hc hel hul hl hw
  go_enter Tryz.func47, Tryz.ntmps47
  go_wp2_with fail
  go_loopw [5, 11] (fun ov iv wr => ∃ (i : Nat), i ≤ n ∧ iv = .int .i64 i ∧ Hid (QssO wr wo.heap.size ov (M.take i)) ∧ Ext wo wr) (fun _ iv _ => n - (intOf iv).toNat)
  case atStart => exact ⟨0, Nat.zero_le _, rfl, QssO.nil _ _, Ext.refl _⟩
  case round =>
    obtain ⟨i, hi, rfl, HO, X⟩ := hrel
    obtain ⟨wi, rfl⟩ : ∃ wi : World, wi = wr := ⟨_, rfl⟩
    by_cases hlt : i < n
    · have hki : (i : Int) < (n : Int) := by omega
      have HML : Hid ((M.take i).length ≤ 1000000) := by show _ ≤ _; rw [List.length_take]; omega
      have HTK : Hid (M.take (i + 1) = M.take i ++ [colQ m i]) := by
        show _ = _
        have h1 := HCG.out i hlt
        obtain ⟨h2, h3⟩ := List.getElem?_eq_some_iff.1 h1
        rw [List.take_succ_eq_append_getElem h2, h3]
      generalize M.take i = M1 at *
      have HKL : Hid ((colQ m i).length = us.length) := by show _ = _; unfold colQ; rw [List.length_map]; exact HUL.out.symm
      have HKG : Hid (∀ (j : Nat) (r : List Rat), m[j]? = some r → (colQ m i)[j]? = some (r.getD i 0)) := fun j r h => by unfold colQ; rw [List.getElem?_map, h]; rfl
      generalize colQ m i = col at *
      clear hlt
      go_wp2_with fail
      go_loopw [7, 16] (fun cv jv wr => ∃ (j : Nat), j ≤ us.length ∧ jv = .int .i64 j ∧ Hid (QsO wr wi.heap.size cv (col.take j)) ∧ Ext wi wr) (fun _ jv _ => us.length - (intOf jv).toNat)
      case atStart => exact ⟨0, Nat.zero_le _, rfl, QsO.nil _ _, Ext.refl _⟩
      case round =>
        obtain ⟨j, hj, rfl, HC2, Y⟩ := hrel
        by_cases hlt2 : j < us.length
        · obtain ⟨u, d1, d2, d3⟩ := get_lt hlt2
          obtain ⟨r, q1, q2, q3⟩ := get_lt (xs := m) (k := j) (by rw [← HUL.out]; exact hlt2)
          obtain ⟨b, off, rfl, hc0⟩ := HC.out.ext (X.trans Y) j u d1.out
          have hcell : wr.cell? ⟨b, off + j, none⟩ = some u := hc0
          have hrw := HW.out r (List.mem_of_getElem? q1.out)
          obtain ⟨ao2, c2, rfl, hlen2, hQ⟩ := ((HEL.out j u r d1.out q1.out).ext (X.trans Y)).opn
          obtain ⟨q, p1, _, _⟩ := get_lt (show i < r.length by omega)
          obtain ⟨g, s5, ao5, l5, c5, bo5, m5, d5, rfl, e0, e1, e2, hq5⟩ := hQ i q p1.out
          have hkj : (j : Int) < (us.length : Int) := by omega
          have hkr : (i : Int) < (r.length : Int) := by omega
          have HTJ : Hid (col.take (j + 1) = col.take j ++ [q]) := by
            show _ = _
            have h1 := HKG.out j r q1.out
            rw [List.getD_eq_getElem?_getD, p1.out] at h1
            obtain ⟨h2, h3⟩ := List.getElem?_eq_some_iff.1 h1
            rw [List.take_succ_eq_append_getElem h2, h3]
            rfl
          have HTL : Hid ((col.take j).length ≤ 1000000) := by show _ ≤ _; rw [List.length_take]; omega
          generalize col.take j = C1 at *
          have hsz := Y.size
          have HCO := HC2.out
          clear hc0 hlt2 hrw hQ
          go_wp2_with (at_builtin; refine wp_appQ (sl := .tmp 20) (x := .tmp 25) rfl rfl HCO hq5 rfl rfl rfl HTL.out hsz ?_; intro v' w' hown hgrew hclean)
          have HE := Lib.hid (QsO.grew HCO hgrew Y (Nat.le_refl _))
          rw [← HTJ.out] at hown
          have HOW := Lib.hid hown
          go_roundw
          case rel => exact ⟨j + 1, by omega, by go_num, HOW, HE.out⟩
          case measure => simp [intOf] <;> omega
        · have hjl : us.length = j := by omega
          have hcc : col.take j = col := by rw [← hjl, ← HKL.out]; exact List.take_length
          have HC3 := HC2.out
          rw [hcc] at HC3
          have HV := HC3.toV (by rw [HKL.out]; omega)
          have HF3 := fun k hk => (HC3.lt k hk).1
          have HO4 := HO.out.ext Y
          have haw := HO.out.away HV HF3
          obtain ⟨yo, yc, rfl, hyl, hyc⟩ := HV.opn
          have XA := X.trans Y
          have hsz := XA.size
          have hcl := HKL.out
          obtain ⟨L, hL⟩ : ∃ L, col.length = L := ⟨_, rfl⟩
          rw [hL] at HV haw ⊢
          clear hcc HC3 HF3 hyc HC2 hcl hL hjl
          go_wp2_with (at_builtin; refine wp_appQs (sl := .tmp 28) (x := .tmp 30) rfl rfl HO4 HV haw rfl rfl rfl HML.out hsz ?_; intro v' w' hown hgrew hclean)
          have HE := Lib.hid (QssO.grew HO4 hgrew XA (Nat.le_refl _))
          rw [← HTK.out] at hown
          have HOW := Lib.hid hown
          go_roundw
          case rel => exact ⟨i + 1, by omega, by go_num, HOW, HE.out⟩
          case measure => simp [intOf] <;> omega
    · have hil : n = i := by omega
      have hmm : M.take i = M := by rw [← hil, ← HCL.out]; exact List.take_length
      have HR0 := HO.out
      rw [hmm] at HR0
      have HR := Lib.hid (HR0.toV (by rw [HCL.out]; omega))
      clear hlt hmm HO HR0
      go_wp2_with fail
      go_ret
      exact ⟨_, rfl, HR.out, X⟩
end Go.Proofs.YtnfmknjhkpgppaaGreatDoor
