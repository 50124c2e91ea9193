/- the law MatrixSystems: its walk -/
import Derived.Test.YtnfmknjhkpgppaaGreatDoorMsC
import Derived.Test.YtnfmknjhkpgppaaGreatDoorMyX
import Derived.Test.YtnfmknjhkpgppaaGreatDoorMsX
namespace Go.Proofs.YtnfmknjhkpgppaaGreatDoor
open Go.RowKit
set_option linter.unusedVariables false

/-- what Solve returns, in one form -/
def SlvU (m : List (List ByteArray)) (l : List ByteArray) (w : World) (e : Ending) (w' : World) : Prop := Ext w w' ∧ ∃ (xo : Option Addr) (xl xc : Nat) (z : Int), e = .returned (.tuple #[.slice xo xl xc, .int .i64 z]) ∧
  ((z = solveE m l ∧ solveE m l ≠ 0 ∧ xl = 0) ∨ (solveE m l = 0 ∧ sysL (wideL m) (augQ m l) = none ∧ (z = 8 ∨ z = 18) ∧ xl = 0) ∨
    (∃ xs, solveE m l = 0 ∧ sysL (wideL m) (augQ m l) = some xs ∧ outsG xs = none ∧ z = 2 ∧ xl = 0) ∨ (∃ xs os, solveE m l = 0 ∧ z = 0 ∧ sysL (wideL m) (augQ m l) = some xs ∧ outsG xs = some os ∧ Strs w' (.slice xo xl xc) os))
theorem slvU_any (v u : Value) (m : List (List ByteArray)) (l : List ByteArray) (w : World) (htab : TabPow w) (hv : Rows Value.string w v m) (hu : Strs w u l) (hs : ∀ l ∈ m, ∀ s ∈ l, s.size ≤ 9223372036854775806) (hs2 : ∀ s ∈ l, s.size ≤ 9223372036854775806) :
    Calls Tryz.prog 6 #[v, u] w (SlvU m l w) := by
  by_cases he : solveE m l = 0
  · refine (mSolve_ok v u m l w htab hv hu hs hs2 he).mono ?_
    rintro e w' ⟨X, h⟩
    rcases h with ⟨hn, q, hq, rfl⟩ | ⟨xs, hx, h⟩
    · exact ⟨X, _, _, _, _, rfl, .inr (.inl ⟨he, hn, hq, rfl⟩)⟩
    · rcases h with ⟨hn, rfl⟩ | ⟨os, x, h1, rfl, s1⟩
      · exact ⟨X, _, _, _, _, rfl, .inr (.inr (.inl ⟨xs, he, hx, hn, rfl, rfl⟩))⟩
      · obtain ⟨xo, xc, rfl, _, _⟩ := s1.open
        exact ⟨X, _, _, _, _, rfl, .inr (.inr (.inr ⟨xs, os, he, rfl, hx, h1, s1⟩))⟩
  · refine (mSolve_err v u m l w hv hu hs hs2 he).mono ?_
    rintro e w' ⟨rfl, X⟩
    exact ⟨X, _, _, _, _, rfl, .inl ⟨rfl, he, rfl⟩⟩
/-- what Det returns, in one form -/
def DetU (m : List (List ByteArray)) (w : World) (e : Ending) (w' : World) : Prop := Ext w w' ∧ ∃ (s : ByteArray) (f : Int), e = .returned (.tuple #[.string s, .int .i64 f]) ∧
  ((f = detE m ∧ detE m ≠ 0 ∧ s.toList = []) ∨ (detE m = 0 ∧ s = (outF (detL m.length (numM m))).1 ∧ f = (outF (detL m.length (numM m))).2))
theorem detU_any (v : Value) (m : List (List ByteArray)) (w : World) (htab : TabPow w) (hv : Rows Value.string w v m) (hs : ∀ l ∈ m, ∀ s ∈ l, s.size ≤ 9223372036854775806) :
    Calls Tryz.prog 7 #[v] w (DetU m w) := by
  by_cases he : detE m = 0
  · refine (mDet_ok v m w htab hv hs he).mono ?_
    rintro e w' ⟨rfl, X⟩
    exact ⟨X, _, _, rfl, .inr ⟨he, rfl, rfl⟩⟩
  · refine (mDet_err v m w hv hs he).mono ?_
    rintro e w' ⟨rfl, X⟩
    exact ⟨X, _, _, rfl, .inl ⟨rfl, he, by simp⟩⟩
/-- the facts of small systems -/
structure SmallS (m : List (List ByteArray)) (l : List ByteArray) : Prop where
  rows : m.length ≤ 5
  wide : ∀ r ∈ m, r.length = wideL m ∧ r.length ≤ 5
  rb : ∀ r ∈ numM m, ∀ q ∈ r, RB 12 q
  tx : textM (numM m) = m
  rect : ∀ r ∈ numM m, r.length = wideL m
theorem smallS_of {m : List (List ByteArray)} {l : List ByteArray} (hs : ∀ l ∈ m, ∀ s ∈ l, s.size ≤ 9223372036854775806) (h0 : matE m = 0) (hv : vastB 5 [m, [l]] = false) : SmallS m l := by
  obtain ⟨_, ok1⟩ := matE_zero hs h0
  have v1 := vast_all hv m (List.mem_cons_self ..)
  refine ⟨v1.1, fun r hr => ⟨(ok1 r hr).1, (v1.2 r hr).1⟩, fun r hr q hq => ?_, ?_, fun r hr => ?_⟩
  · unfold numM at hr
    obtain ⟨y, hy, rfl⟩ := List.mem_map.1 hr
    obtain ⟨s, hm, rfl⟩ := List.mem_map.1 hq
    exact ratOf_RB ((ok1 y hy).2.2 s hm).1 ((v1.2 y hy).2 s hm) (by omega)
  · unfold textM numM
    rw [List.map_map]
    have : m.map ((fun x => x.map ratT) ∘ fun x => x.map ratOf) = m.map id := List.map_congr_left fun y hy => texts_of fun s h => ((ok1 y hy).2.2 s h).1
    rw [this, List.map_id]
  · unfold numM at hr
    obtain ⟨y, hy, rfl⟩ := List.mem_map.1 hr
    rw [List.length_map]
    exact (ok1 y hy).1
theorem smallV_of {m : List (List ByteArray)} {l : List ByteArray} (hs2 : ∀ s ∈ l, s.size ≤ 9223372036854775806) (h0 : vecE l = 0) (hv : vastB 5 [m, [l]] = false) : (∀ q ∈ l.map ratOf, RB 12 q) ∧ (l.map ratOf).map ratT = l := by
  obtain ⟨_, ok1⟩ := vecE_ok hs2 h0
  have v1 := vast_all hv [l] (List.mem_cons_of_mem _ (List.mem_cons_self ..))
  have v2 := v1.2 l (List.mem_cons_self ..)
  refine ⟨fun q hq => ?_, texts_of fun s h => (ok1 s h).1⟩
  obtain ⟨s, hm2, rfl⟩ := List.mem_map.1 hq
  exact ratOf_RB (ok1 s hm2).1 (v2.2 s hm2) (by omega)
theorem numM_len2 (m : List (List ByteArray)) : (numM m).length = m.length := by unfold numM; rw [List.length_map]
theorem wide_le {m : List (List ByteArray)} {l : List ByteArray} (h : SmallS m l) : wideL m ≤ 5 := by
  cases m with
  | nil => exact Nat.zero_le _
  | cons r t =>
    have := h.wide r (List.mem_cons_self ..)
    omega
theorem small_det {m : List (List ByteArray)} {l : List ByteArray} (h : SmallS m l) (hd : m.length = wideL m) : RB 1000 (detL m.length (numM m)) ∧ Rect (numM m) m.length m.length := by
  have hr : Rect (numM m) m.length m.length := ⟨numM_len2 m, fun r hr => by rw [hd]; exact h.rect r hr⟩
  exact ⟨det_RB hr h.rows h.rb, hr⟩
theorem small_sys {m : List (List ByteArray)} {l : List ByteArray} (h : SmallS m l) (hv : ∀ q ∈ l.map ratOf, RB 12 q) (hl : l.length = m.length) {xs : List Rat} (hx : sysL (wideL m) (augQ m l) = some xs) : ∀ q ∈ xs, RB 1000 q := by
  have e : augQ m l = augL (numM m) (l.map ratOf) := rfl
  have hlen : (numM m).length = (l.map ratOf).length := by rw [numM_len2, List.length_map, hl]
  have hr : Rect (augQ m l) m.length (wideL m + 1) := by
    rw [e]
    exact ⟨by rw [augL_len hlen, numM_len2], augL_wide h.rect⟩
  by_cases h0 : m.length = 0
  · obtain rfl : m = [] := List.eq_nil_of_length_eq_zero h0
    have := sysL_len _ _ _ hx
    have e2 : wideL ([] : List (List ByteArray)) = 0 := rfl
    rw [e2] at this
    obtain rfl : xs = [] := List.eq_nil_of_length_eq_zero this
    intro q hq
    cases hq
  · exact sys_RB hr (by omega) h.rows (wide_le h) (by rw [e]; exact augL_mem h.rb hv) hx

set_option maxHeartbeats 64000000 in
set_option maxRecDepth 100000 in
theorem matrixSystems_walk (v u : Value) (m : List (List ByteArray)) (l : List ByteArray) (w : World) (hv : Rows Value.string w v m) (hu : Strs w u l) (hs : ∀ l ∈ m, ∀ s ∈ l, s.size ≤ 9223372036854775806) (hs2 : ∀ s ∈ l, s.size ≤ 9223372036854775806) (htab : TabPow w) :
    Calls Tryz.prog 3 #[v, u] w fun e w' => e = .returned (.bool true) ∧ Ext w w' := by
  have H0 := Lib.hid (matrixFact_any w htab)
  have H1 := Lib.hid (fun W (h : Ext w W) => weight_any v m W (hv.ext h))
  have H3 := Lib.hid (fun y W h => weight_any y [l] W h)
  have HSO := Lib.hid (fun W (h : Ext w W) => slvU_any v u m l W (tabPow_ext htab h) (hv.ext h) (hu.ext h) hs hs2)
  have HDE := Lib.hid (fun W (h : Ext w W) => detU_any v m W (tabPow_ext htab h) (hv.ext h) hs)
  have HMA := Lib.hid (fun W (h : Ext w W) => rMatrixError_any v m W (hv.ext h) hs _ rfl)
  have HVE := Lib.hid (fun W (h : Ext w W) => rVecError_any u l W (hu.ext h) hs2 _ rfl)
  have HWA := Lib.hid (fun W (h : Ext w W) => rWide_any v m W (hv.ext h))
  have HA := Lib.hid hv
  have HX := Lib.hid hu
  have HVS := Lib.hid (fun q (hq : vastB 5 [m, [l]] = q) => Lib.hid (fun y W (h : MatsV W y [m, [l]]) => vast_any y 5 [m, [l]] W h (by omega) (fun m2 hm r hr s h2 => by
    simp only [List.mem_cons, List.not_mem_nil, or_false] at hm
    rcases hm with rfl | rfl
    · exact hs r hr s h2
    · simp only [List.mem_singleton] at hr
      subst hr
      exact hs2 s h2) q hq))
  have HSM := Lib.hid (fun (h0 : matE m = 0) (h1 : vastB 5 [m, [l]] = false) => smallS_of (l := l) hs h0 h1)
  have HSV := Lib.hid (fun (h0 : vecE l = 0) (h1 : vastB 5 [m, [l]] = false) => smallV_of (m := m) hs2 h0 h1)
  have HRD := Lib.hid (fun (h : SmallS m l) (hd : m.length = wideL m) W (hx : Ext w W) => rDet_any (k := 12) m.length (numM m) v W (by rw [h.tx]; exact hv.ext hx) (small_det h hd).2 h.rb (by
    have h5 := h.rows
    generalize m.length = n at *
    match n, h5 with
    | 0, _ => decide
    | 1, _ => decide
    | 2, _ => decide
    | 3, _ => decide
    | 4, _ => decide
    | 5, _ => decide
    | n + 6, h => omega) (by have := h.rows; omega))
  have HRS := Lib.hid (fun (h : SmallS m l) (h2 : (∀ q ∈ l.map ratOf, RB 12 q) ∧ (l.map ratOf).map ratT = l) (hl : l.length = m.length) W (hx : Ext w W) => rSys_any (wideL m) 12 (wide_le h) (by omega) (numM m) (l.map ratOf) v u W (by rw [h.tx]; exact hv.ext hx) (by rw [h2.2]; exact hu.ext hx) (by rw [numM_len2, List.length_map, hl]) (by rw [numM_len2]; have := h.rows; omega) h.rect h.rb h2.1)
  obtain ⟨us, hr, hul, hel⟩ := hv
  obtain ⟨ao, c, rfl, hac, hlen, _, hc⟩ := hr
  obtain ⟨lo, lc, rfl, hlen3, hd⟩ := hu.open
  have HUL := Lib.hid hul
  clear hc hel hd hu hs hs2 htab hac hul
  obtain ⟨pA, hpA⟩ : ∃ p, matE m = p := ⟨_, rfl⟩
  obtain ⟨pV, hpV⟩ : ∃ p, vecE l = p := ⟨_, rfl⟩
  obtain ⟨pS, hpS⟩ : ∃ p, solveE m l = p := ⟨_, rfl⟩
  obtain ⟨pD, hpD⟩ : ∃ p, detE m = p := ⟨_, rfl⟩
  have HpS : Hid (pS = if pA ≠ 0 then pA else if pV ≠ 0 then pV else if l.length ≠ m.length then 3 else 0) := by show _ = _; rw [← hpS, ← hpA, ← hpV]; rfl
  have HpD : Hid (pD = if pA ≠ 0 then pA else if m.length ≠ wideL m then 3 else 0) := by show _ = _; rw [← hpD, ← hpA]; rfl
  have HpA := Lib.hid hpA
  have HpV := Lib.hid hpV
  have HqS := Lib.hid hpS
  have HqD := Lib.hid hpD
  rw [hpA] at HMA
  rw [hpV] at HVE
  have HFI : Hid (∀ y (p q : Int) W, Ints W y [p, q] → ∀ r, Hid (firstF [p, q] = r) → Calls Tryz.prog 9 #[y] W fun e w' => e = .returned (.int .i64 r) ∧ W = w') := fun y p q W h r hr => first_any y [p, q] W h r hr
  clear hpA hpV hpS hpD
  go_enter Tryz.func3, Tryz.ntmps3
  go_wp2_with fail
  refine H0.out.mono ?_
  rintro e w1 ⟨rfl, E1⟩
  go_wp2_with fail
  refine (H1.out _ E1).mono ?_
  rintro e w2 ⟨n1, rfl, X2⟩
  have E2 := E1.trans X2
  clear E1 X2
  go_wp2_with fail
  refine (H3.out _ _ (by exact lit_rows_one _ _ (HX.out.ext E2) _ (by first | rfl | simp))).mono ?_
  rintro e w4 ⟨n3, rfl, X4⟩
  have E4 := E2.trans (Ext.trans (by repeat' (first | with_reducible exact Ext.refl _ | with_reducible apply Ext.alloc)) X4)
  clear E2 X4
  by_cases hn : (6000 : Int) < wrap64 (n1 + n3)
  · go_wp2_with fail
    go_ret
    exact ⟨rfl, E4⟩
  go_wp2_with fail
  refine (HSO.out _ E4).mono ?_
  rintro e w5 ⟨X5, xo, xl, xc, z, rfl, hS⟩
  have E5 := E4.trans X5
  rw [HqS.out] at hS
  have HS := Lib.hid hS
  clear E4 X5 hS
  go_wp2_with fail
  refine (HDE.out _ E5).mono ?_
  rintro e w6 ⟨X6, s, f, rfl, hD⟩
  have E6 := E5.trans X6
  rw [HqD.out] at hD
  have HD := Lib.hid hD
  have Y := X6
  clear E5 X6 hD hn
  go_wp2_with fail
  refine (HMA.out _ E6).mono ?_
  rintro e w7 ⟨rfl, X7⟩
  have E7 := E6.trans X7
  have Y := Y.trans X7
  clear X7 E6
  go_wp2_with fail
  refine (HVE.out _ E7).mono ?_
  rintro e w8 ⟨rfl, X8⟩
  have E8 := E7.trans X8
  have Y := Y.trans X8
  clear X8 E7
  obtain ⟨q1, hq1⟩ : ∃ q1, firstF [pA, pV] = q1 := ⟨_, rfl⟩
  have HQ1 := Lib.hid hq1
  go_wp2_with fail
  refine (HFI.out _ _ _ _ (by exact lit_ints_at _ _ ([pA, pV] : List Int) (by simp) _ (by first | rfl | simp)) q1 HQ1).mono ?_
  rintro e w9 ⟨rfl, hX9⟩
  have X9 : Ext w8 w9 := by rw [← hX9]; exact (Ext.refl _).alloc _
  have E9 := E8.trans X9
  have Y := Y.trans X9
  clear hX9 E8 X9 hq1
  go_upto_region 9 with fail
  go_cut [48] from 40 to 48 (fun s48 wx => ∃ bq, s48 = .bool bq ∧ Hid (pD = if bq = true then 3 else pA) ∧ Ext w9 wx)
  case first =>
    have hM0 := HpD.out
    by_cases hA0 : pA = 0
    · subst hA0
      rw [if_neg (by simp)] at hM0
      by_cases hw : m.length = wideL m
      · have hb : ((us.length : Int) != (wideL m : Int)) = false := by rw [HUL.out, hw]; simp
        rw [if_neg (by simpa using hw)] at hM0
        have HM0 := Lib.hid hM0
        generalize wideL m = wa at *
        clear hw hM0
        go_wp2_with fail
        refine (HWA.out _ E9).mono ?_
        rintro e w12 ⟨rfl, X12⟩
        go_wp2_with fail
        go_meet
        exact ⟨false, rfl, by rw [if_neg (by simp)]; exact HM0.out, X12⟩
      · have hb : ((us.length : Int) != (wideL m : Int)) = true := by rw [bne_iff_ne, HUL.out]; omega
        rw [if_pos hw] at hM0
        have HM0 := Lib.hid hM0
        generalize wideL m = wa at *
        clear hw hM0
        go_wp2_with fail
        refine (HWA.out _ E9).mono ?_
        rintro e w12 ⟨rfl, X12⟩
        go_wp2_with fail
        go_meet
        exact ⟨true, rfl, by rw [if_pos rfl]; exact HM0.out, X12⟩
    · have hpm : (pA == 0) = false := by rw [beq_eq_false_iff_ne]; exact hA0
      rw [if_pos hA0] at hM0
      have HM0 := Lib.hid hM0
      clear hA0 hM0
      go_wp2_with fail
      go_meet
      exact ⟨false, rfl, by rw [if_neg (by simp)]; exact HM0.out, Ext.refl _⟩
  case rest =>
  obtain ⟨bq, rfl, hbq, X12⟩ := hcut
  go_upto_if 48 with fail
  go_cut [9] from 49 to 48 (fun s9 wx => s9 = .int .i64 pD ∧ Ext w9 wx)
  case first =>
    have hbq := hbq.out
    cases bq with
    | true =>
      rw [if_pos rfl] at hbq
      have HBQ := Lib.hid hbq
      clear hbq
      go_wp2_with fail
      go_meet
      exact ⟨by rw [HBQ.out], X12⟩
    | false =>
      rw [if_neg (by simp)] at hbq
      have HBQ := Lib.hid hbq
      clear hbq
      go_wp2_with fail
      go_meet
      exact ⟨by rw [HBQ.out], X12⟩
  case rest =>
  clear X12
  obtain ⟨rfl, X12⟩ := hcut
  clear hbq
  go_upto_region 11 with fail
  go_cut [57] from 49 to 57 (fun s57 wx => ∃ bq, s57 = .bool bq ∧ Hid (pS = if bq = true then 3 else q1) ∧ Ext w9 wx)
  case first =>
    have hM0 := HpS.out
    have hQ := HQ1.out
    rw [firstF_vec] at hQ
    by_cases hA0 : q1 = 0
    · subst hA0
      have e1 : pA = 0 := by
        by_cases h : pA = 0
        · exact h
        · rw [if_pos h] at hQ; exact absurd hQ h
      have e2 : pV = 0 := by rw [if_neg (by simpa using e1)] at hQ; exact hQ
      rw [if_neg (by simpa using e1), if_neg (by simpa using e2)] at hM0
      by_cases hw : l.length = m.length
      · have hb : ((us.length : Int) != (l.length : Int)) = false := by rw [HUL.out, hw]; simp
        rw [if_neg (by simpa using hw)] at hM0
        have HM0 := Lib.hid hM0
        clear hw hM0 e1 e2 hQ
        go_wp2_with fail
        go_meet
        exact ⟨false, rfl, by rw [if_neg (by simp)]; exact HM0.out, X12⟩
      · have hb : ((us.length : Int) != (l.length : Int)) = true := by rw [bne_iff_ne, HUL.out]; omega
        rw [if_pos hw] at hM0
        have HM0 := Lib.hid hM0
        clear hw hM0 e1 e2 hQ
        go_wp2_with fail
        go_meet
        exact ⟨true, rfl, by rw [if_pos rfl]; exact HM0.out, X12⟩
    · have hpm : (q1 == 0) = false := by rw [beq_eq_false_iff_ne]; exact hA0
      have HM0 : Hid (pS = q1) := by
        show _ = _
        rw [hM0]
        by_cases h : pA = 0
        · rw [if_neg (by simpa using h)] at hQ ⊢
          rw [if_pos (by rw [hQ]; exact hA0), hQ]
        · rw [if_pos h] at hQ ⊢
          rw [hQ]
      clear hA0 hM0 hQ
      go_wp2_with fail
      go_meet
      exact ⟨false, rfl, by rw [if_neg (by simp)]; exact HM0.out, X12⟩
  case rest =>
  clear X12
  obtain ⟨bq2, rfl, hbq2, X12⟩ := hcut
  go_upto_if 57 with fail
  go_cut [10] from 58 to 57 (fun s10 wx => s10 = .int .i64 pS ∧ Ext w9 wx)
  case first =>
    have hbq := hbq2.out
    cases bq2 with
    | true =>
      rw [if_pos rfl] at hbq
      have HBQ := Lib.hid hbq
      clear hbq
      go_wp2_with fail
      go_meet
      exact ⟨by rw [HBQ.out], X12⟩
    | false =>
      rw [if_neg (by simp)] at hbq
      have HBQ := Lib.hid hbq
      clear hbq
      go_wp2_with fail
      go_meet
      exact ⟨by rw [HBQ.out], X12⟩
  case rest =>
  clear X12
  obtain ⟨rfl, X12⟩ := hcut
  go_upto_region 13 with fail
  go_cut [82] from 58 to 82 (fun s82 wx => s82 = .bool false ∧ Ext w9 wx)
  case first =>
    rcases HD.out with ⟨hf, hne, hs0⟩ | ⟨h0, hg1, hg2⟩
    · subst hf
      have hb1 : (f != f) = false := by simp
      have hb2 : (f != 0) = true := by simpa using hne
      clear hne
      by_cases hS0 : pS = 0
      · subst hS0
        go_wp2_with fail
        go_meet
        exact ⟨rfl, X12⟩
      · have hb3 : (pS != 0) = true := by simpa using hS0
        have hb4 : (pS != pS) = false := by simp
        have hz : z = pS ∧ xl = 0 := by
          rcases HS.out with ⟨a, _, b⟩ | ⟨h, _⟩ | ⟨_, h, _⟩ | ⟨_, _, h, _⟩
          · exact ⟨a, b⟩
          · exact absurd h hS0
          · exact absurd h hS0
          · exact absurd h hS0
        obtain ⟨hz, rfl⟩ := hz
        subst hz
        clear hS0
        go_wp2_with fail
        go_meet
        exact ⟨rfl, X12⟩
    · subst h0
      clear hg1 hg2
      by_cases hS0 : pS = 0
      · subst hS0
        go_wp2_with fail
        go_meet
        exact ⟨rfl, X12⟩
      · have hb3 : (pS != 0) = true := by simpa using hS0
        have hb4 : (pS != pS) = false := by simp
        have hz : z = pS ∧ xl = 0 := by
          rcases HS.out with ⟨a, _, b⟩ | ⟨h, _⟩ | ⟨_, h, _⟩ | ⟨_, _, h, _⟩
          · exact ⟨a, b⟩
          · exact absurd h hS0
          · exact absurd h hS0
          · exact absurd h hS0
        obtain ⟨hz, rfl⟩ := hz
        subst hz
        clear hS0
        go_wp2_with fail
        go_meet
        exact ⟨rfl, X12⟩
  case rest =>
  clear X12
  obtain ⟨rfl, X12⟩ := hcut
  have E12 := E9.trans X12
  have Y := Y.trans X12
  clear X12 E9
  cases hvb : vastB 5 [m, [l]] with
  | true =>
    have HV := HVS.out true hvb
    clear hvb
    go_wp2_with fail
    refine (HV.out _ _ (by exact lit_mats2 _ _ ((HA.out.ext E12).ext ((Ext.refl _).alloc _)) (lit_rows_one _ _ (HX.out.ext E12) _ (by first | rfl | simp)) _ (by first | rfl | simp))).mono ?_
    rintro e w18 ⟨rfl, X18⟩
    have E18 := E12.trans (Ext.trans (by repeat' (first | with_reducible exact Ext.refl _ | with_reducible apply Ext.alloc)) X18)
    go_wp2_with fail
    go_ret
    exact ⟨rfl, E18⟩
  | false =>
    have HVB := Lib.hid hvb
    have HV := HVS.out false hvb
    clear hvb
    go_wp2_with fail
    refine (HV.out _ _ (by exact lit_mats2 _ _ ((HA.out.ext E12).ext ((Ext.refl _).alloc _)) (lit_rows_one _ _ (HX.out.ext E12) _ (by first | rfl | simp)) _ (by first | rfl | simp))).mono ?_
    rintro e w18 ⟨rfl, X18⟩
    have E18 := E12.trans (Ext.trans (by repeat' (first | with_reducible exact Ext.refl _ | with_reducible apply Ext.alloc)) X18)
    have Y18 := Y.trans (Ext.trans (by repeat' (first | with_reducible exact Ext.refl _ | with_reducible apply Ext.alloc)) X18)
    clear E12 Y X18
    go_upto_region 17 with fail
    go_cut [99] from 88 to 99 (fun s99 wx => s99 = .bool false ∧ Ext w18 wx)
    case first =>
      rcases HD.out with ⟨hf, hne, hs0⟩ | ⟨h0, hs0, hf⟩
      · have hb1 : (pD == 0) = false := by rw [beq_eq_false_iff_ne]; exact hne
        clear hf hne hs0
        go_wp2_with fail
        go_meet
        exact ⟨rfl, Ext.refl _⟩
      · subst h0
        obtain ⟨e1, e2⟩ := detE_zero HqD.out
        have hsm := HSM.out e1 HVB.out
        obtain ⟨hrb, _⟩ := small_det hsm e2
        have hO : outF (detL m.length (numM m)) = (ratT (detL m.length (numM m)), 0) := by
          unfold outF
          rw [if_pos (fits_RB (k := 1000) hrb (by omega))]
        rw [hO] at hs0 hf
        have HRD2 := Lib.hid (HRD.out hsm e2)
        replace hf : f = 0 := hf
        replace hs0 : s = ratT (detL m.length (numM m)) := hs0
        rw [← hs0] at HRD2
        subst hf
        have htt : (s.toList != s.toList) = false := bne_self_eq_false _
        clear hs0 hO hrb e1 e2 hsm
        go_wp2_with fail
        refine (HRD2.out _ E18).mono ?_
        rintro e w19 ⟨rfl, X19⟩
        go_wp2_with fail
        go_meet
        exact ⟨rfl, X19⟩
    case rest =>
    obtain ⟨rfl, X19⟩ := hcut
    have E19 := E18.trans X19
    have Y19 := Y18.trans X19
    clear E18 Y18 X19
    by_cases hS0 : pS = 0
    · subst hS0
      obtain ⟨e1, e2, e3⟩ := solveE_zero HqS.out
      have hsm := HSM.out e1 HVB.out
      have hsv := HSV.out e2 HVB.out
      have HSY := Lib.hid (HRS.out hsm hsv e3)
      have hSX := HS.out
      have HSR := Lib.hid (fun xs (hx : sysL (wideL m) (augQ m l) = some xs) => small_sys hsm hsv.1 e3 hx)
      have hag : augL (numM m) (l.map ratOf) = augQ m l := rfl
      rw [hag] at HSY
      generalize sysL (wideL m) (augQ m l) = so at *
      generalize wideL m = wa at *
      clear e1 e2 e3 hsm hsv hag
      go_wp2_with fail
      refine (HWA.out _ E19).mono ?_
      rintro e w20 ⟨rfl, X20⟩
      have E20 := E19.trans X20
      have Y20 := Y19.trans X20
      clear E19 Y19 X20
      rcases hSX with ⟨_, hne, _⟩ | ⟨_, rfl, hz, rfl⟩ | ⟨xs, _, rfl, hout, _, _⟩ | ⟨xs, os, _, rfl, rfl, hout, hst⟩
      · exact absurd rfl hne
      · go_wp2_with fail
        refine (HSY.out _ E20).mono ?_
        rintro e w21 ⟨X21, h⟩
        have E21 := E20.trans X21
        rcases h with ⟨_, yu, rfl⟩ | ⟨x, yu, h, _⟩
        · rcases hz with rfl | rfl
          · go_wp2_with fail
            go_ret
            exact ⟨rfl, E21⟩
          · go_wp2_with fail
            go_ret
            exact ⟨rfl, E21⟩
        · cases h
      · have := outsG_RB (k := 1000) (by omega) xs (HSR.out xs rfl)
        rw [hout] at this
        cases this
      · have h2 := outsG_RB (k := 1000) (by omega) xs (HSR.out xs rfl)
        rw [hout] at h2
        simp only [Option.some.injEq] at h2
        rw [h2] at hst
        have HST := Lib.hid hst
        clear hout h2 hst
        go_wp2_with fail
        refine (HSY.out _ E20).mono ?_
        rintro e w21 ⟨X21, h⟩
        have E21 := E20.trans X21
        rcases h with ⟨h, _⟩ | ⟨x, yu, h, rfl, hyu, hyf⟩
        · cases h
        · simp only [Option.some.injEq] at h
          rw [← h] at hyu
          have HYU := Lib.hid hyu
          have HSW := Lib.hid (HST.out.ext (Y20.trans X21))
          obtain ⟨yo, yc, rfl, _, _⟩ := hyu.open
          rw [List.length_map] at HYU
          clear hyu hyf h x
          go_wp2_with fail
          refine (equal_vec _ _ _ _ HSW.out HYU.out).mono ?_
          rintro e w22 ⟨rfl, X22⟩
          have E22 := E21.trans X22
          go_wp2_with fail
          go_ret
          exact ⟨rfl, E22⟩
    · have hb : (pS != 0) = true := by simpa using hS0
      clear hS0
      go_wp2_with fail
      go_ret
      exact ⟨rfl, E19⟩
end Go.Proofs.YtnfmknjhkpgppaaGreatDoor
