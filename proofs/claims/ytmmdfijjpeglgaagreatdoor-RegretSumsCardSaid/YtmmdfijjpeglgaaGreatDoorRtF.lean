/- texts merged: RatN RatO -/
import Derived.Test.YtmmdfijjpeglgaaGreatDoorRtE
import Derived.Test.YtmmdfijjpeglgaaGreatDoorRtD
import Derived.Test.YtmmdfijjpeglgaaGreatDoorNatZ
import Derived.Test.YtmmdfijjpeglgaaGreatDoorRtB
/- walks of package rat: CheckAll, two, one -/
namespace Go.Proofs.YtmmdfijjpeglgaaGreatDoor
open Go.RowKit
set_option linter.unusedVariables false


set_option maxHeartbeats 1600000 in
set_option maxRecDepth 100000 in
theorem checkAll_any (v : Value) (l : List ByteArray) (w : World) (hv : Strs w v l) (hs : ∀ s ∈ l, s.size ≤ 9223372036854775806) (Q : Int) (hQ : firstF (l.map ratErr) = Q) :
    Calls Tryz.prog 18 #[v] w fun e w' => e = .returned (.int .i64 Q) ∧ Ext w w' := by
  obtain ⟨wo, rfl⟩ : ∃ wo : World, wo = w := ⟨_, rfl⟩
  obtain ⟨ao, c, rfl, hlen, hc⟩ := hv.open
  have HC := Lib.hid hc
  have HS := Lib.hid hs
  have HQ := Lib.hid hQ
  clear hc hs hv hQ
  go_enter Tryz.func18, Tryz.ntmps18
  go_wp2_with fail
  go_loopw [8] (fun iv wr => ∃ (i : Nat), i ≤ l.length ∧ iv = .int .i64 i ∧ Ext wo wr ∧ Hid (firstF ((l.drop i).map ratErr) = Q)) (fun iv _ => l.length - (intOf iv).toNat)
  case atStart => exact ⟨0, Nat.zero_le _, rfl, Ext.refl _, by show _ = _; rw [List.drop_zero]; exact HQ.out⟩
  case round =>
    obtain ⟨i, hi, rfl, X, HI⟩ := hrel
    by_cases hlt : i < l.length
    · obtain ⟨s, d1, d2, d3⟩ := get_lt hlt
      obtain ⟨b, off, rfl, hc0⟩ := (HC.out.ext X).at d1
      have hcell : wr.cell? ⟨b, off + i, none⟩ = some (.string s) := hc0
      have hki : (i : Int) < (l.length : Int) := by omega
      have hi2 := HI.out
      rw [d2.out, List.map_cons, firstF] at hi2
      have HR := Lib.hid (ratCheck_any s wr (HS.out s (List.mem_of_getElem? d1.out)))
      obtain ⟨q, hq⟩ : ∃ q, ratErr s = q := ⟨_, rfl⟩
      rw [hq] at HR hi2
      by_cases hz : q = 0
      · subst hz
        rw [if_neg (by simp)] at hi2
        have HI2 := Lib.hid hi2
        clear hc0 hi2 hq hlt
        go_wp2_with fail
        refine HR.out.mono ?_
        rintro e w2 ⟨rfl, X2⟩
        go_wp2_with fail
        go_roundw
        case rel => exact ⟨i + 1, by omega, by go_num, X.trans X2, HI2.out⟩
        case measure => simp [intOf]; omega
      · rw [if_pos hz] at hi2
        have hb : (q != 0) = true := by simp [hz]
        have HI2 := Lib.hid hi2
        clear hc0 hi2 hq hlt hz
        go_wp2_with fail
        refine HR.out.mono ?_
        rintro e w2 ⟨rfl, X2⟩
        go_wp2_with fail
        go_ret
        exact ⟨by rw [← HI2.out]; rfl, X.trans X2⟩
    · have hil : l.length = i := by omega
      have hi2 := HI.out
      rw [← hil, List.drop_length] at hi2
      have HI2 := Lib.hid hi2
      clear hi2 hlt
      go_wp2_with fail
      go_ret
      exact ⟨by rw [← HI2.out]; rfl, X⟩

def errs2 (a b : ByteArray) : Int := firstF [ratErr a, ratErr b]
theorem errs2_zero {a b : ByteArray} (h : errs2 a b = 0) : ratErr a = 0 ∧ ratErr b = 0 := by
  unfold errs2 at h
  simp only [firstF] at h
  by_cases h1 : ratErr a = 0
  · by_cases h2 : ratErr b = 0
    · exact ⟨h1, h2⟩
    · rw [if_neg (by simpa using h1), if_pos h2] at h
      exact absurd h h2
  · rw [if_pos h1] at h
    exact absurd h h1

set_option maxHeartbeats 1600000 in
set_option maxRecDepth 100000 in
theorem two_err (a b : ByteArray) (f : Value) (w : World) (ha : a.size ≤ 9223372036854775806) (hb : b.size ≤ 9223372036854775806) (h : errs2 a b ≠ 0) :
    Calls Tryz.prog 85 #[.string a, .string b, f] w fun e w' => e = .returned (.tuple #[.string ⟨#[]⟩, .int .i64 (errs2 a b)]) ∧ Ext w w' := by
  have HCK := Lib.hid (fun v W (hv : Strs W v [a, b]) => checkAll_any v [a, b] W hv (by simp; omega) (errs2 a b) (by show firstF [ratErr a, ratErr b] = _; rfl))
  generalize errs2 a b = p at *
  have hpb : (p != 0) = true := by simp [h]
  clear h
  go_enter Tryz.func85, Tryz.ntmps85
  go_wp2_with fail
  refine (HCK.out _ _ (by exact lit_strs_at _ _ ([a, b] : List ByteArray) (by simp) _ (by first | rfl | simp))).mono ?_
  rintro e w2 ⟨rfl, X2⟩
  have XA := ((Ext.refl w).alloc (.cells #[.string a, .string b] 22)).trans X2
  go_wp2_with fail
  go_ret2
  exact ⟨rfl, XA⟩

set_option maxHeartbeats 1600000 in
set_option maxRecDepth 100000 in
theorem two_ok (a b : ByteArray) (g : Nat) (q : Rat) (w : World) (htab : TabPow w) (ha : a.size ≤ 9223372036854775806) (hb : b.size ≤ 9223372036854775806) (h : errs2 a b = 0) (eg : ∀ args w, (callFunc g args).run Tryz.prog w = .ok (.enter g args) w)
    (hop : ∀ (u v : Value) W, Ext w W → QV W u (ratOf a) → QV W v (ratOf b) → Calls Tryz.prog g #[u, v] W fun e w' => ∃ r, e = .returned r ∧ QV w' r q ∧ Ext W w') :
    Calls Tryz.prog 85 #[.string a, .string b, .func (.func g) #[] #[]] w fun e w' => e = .returned (.tuple #[.string (outF q).1, .int .i64 (outF q).2]) ∧ Ext w w' := by
  have HCK := Lib.hid (fun v W (hv : Strs W v [a, b]) => checkAll_any v [a, b] W hv (by simp; omega) 0 (by show firstF [ratErr a, ratErr b] = _; exact h))
  obtain ⟨h1, h2⟩ := errs2_zero h
  have HP1 := Lib.hid (fun W => parse_any a W (ratErr_ok h1) ha)
  have HP2 := Lib.hid (fun W => parse_any b W (ratErr_ok h2) hb)
  have HOP := Lib.hid hop
  have HO := Lib.hid (fun (u : Value) W (hx : Ext w W) (hu : QV W u q) => out_any u q W hu (tabPow_ext htab hx))
  obtain ⟨RR, hRR⟩ : ∃ R, outF q = R := ⟨_, rfl⟩
  rw [hRR] at HO ⊢
  obtain ⟨s, e0⟩ := RR
  clear hRR h h1 h2 hop htab
  go_enter Tryz.func85, Tryz.ntmps85
  go_wp2_with fail
  refine (HCK.out _ _ (by exact lit_strs_at _ _ ([a, b] : List ByteArray) (by simp) _ (by first | rfl | simp))).mono ?_
  rintro e w2 ⟨rfl, X2⟩
  have XA := ((Ext.refl w).alloc (.cells #[.string a, .string b] 22)).trans X2
  go_wp2_with fail
  refine (HP1.out _).mono ?_
  rintro e w3 ⟨u3, rfl, h3, X3⟩
  have HU3 := Lib.hid h3
  have XB := XA.trans X3
  clear h3
  go_wp2_with fail
  refine (HP2.out _).mono ?_
  rintro e w4 ⟨u4, rfl, h4, X4⟩
  have HU3 := Lib.hid (HU3.out.ext X4)
  have HU4 := Lib.hid h4
  have XC := XB.trans X4
  clear h4
  go_wp2_with fail
  refine (HOP.out _ _ _ XC HU3.out HU4.out).mono ?_
  rintro e w5 ⟨u5, rfl, h5, X5⟩
  have HU5 := Lib.hid h5
  have XD := XC.trans X5
  clear h5
  go_wp2_with fail
  refine (HO.out _ _ XD HU5.out).mono ?_
  rintro e w6 ⟨rfl, X6⟩
  go_wp2_with fail
  go_ret2
  exact ⟨rfl, XD.trans X6⟩

set_option maxHeartbeats 1600000 in
set_option maxRecDepth 100000 in
theorem one_err (a : ByteArray) (f : Value) (w : World) (ha : a.size ≤ 9223372036854775806) (h : ratErr a ≠ 0) :
    Calls Tryz.prog 88 #[.string a, f] w fun e w' => e = .returned (.tuple #[.string ⟨#[]⟩, .int .i64 (ratErr a)]) ∧ Ext w w' := by
  have HCK := Lib.hid (fun W => ratCheck_any a W ha)
  generalize ratErr a = p at *
  have hpb : (p != 0) = true := by simp [h]
  clear h
  go_enter Tryz.func88, Tryz.ntmps88
  go_wp2_with fail
  refine (HCK.out _).mono ?_
  rintro e w2 ⟨rfl, X2⟩
  go_wp2_with fail
  go_ret2
  exact ⟨rfl, X2⟩

set_option maxHeartbeats 1600000 in
set_option maxRecDepth 100000 in
theorem one_ok (a : ByteArray) (g : Nat) (q : Rat) (w : World) (htab : TabPow w) (ha : a.size ≤ 9223372036854775806) (h : ratErr a = 0) (eg : ∀ args w, (callFunc g args).run Tryz.prog w = .ok (.enter g args) w)
    (hop : ∀ (u : Value) W, Ext w W → QV W u (ratOf a) → Calls Tryz.prog g #[u] W fun e w' => ∃ r, e = .returned r ∧ QV w' r q ∧ Ext W w') :
    Calls Tryz.prog 88 #[.string a, .func (.func g) #[] #[]] w fun e w' => e = .returned (.tuple #[.string (outF q).1, .int .i64 (outF q).2]) ∧ Ext w w' := by
  have HCK := Lib.hid (fun W => ratCheck_any a W ha)
  rw [h] at HCK
  have HP1 := Lib.hid (fun W => parse_any a W (ratErr_ok h) ha)
  have HOP := Lib.hid hop
  have HO := Lib.hid (fun (u : Value) W (hx : Ext w W) (hu : QV W u q) => out_any u q W hu (tabPow_ext htab hx))
  obtain ⟨RR, hRR⟩ : ∃ R, outF q = R := ⟨_, rfl⟩
  rw [hRR] at HO ⊢
  obtain ⟨s, e0⟩ := RR
  clear hRR h hop htab
  go_enter Tryz.func88, Tryz.ntmps88
  go_wp2_with fail
  refine (HCK.out _).mono ?_
  rintro e w2 ⟨rfl, XA⟩
  go_wp2_with fail
  refine (HP1.out _).mono ?_
  rintro e w3 ⟨u3, rfl, h3, X3⟩
  have HU3 := Lib.hid h3
  have XB := XA.trans X3
  clear h3
  go_wp2_with fail
  refine (HOP.out _ _ XB HU3.out).mono ?_
  rintro e w5 ⟨u5, rfl, h5, X5⟩
  have HU5 := Lib.hid h5
  have XD := XB.trans X5
  clear h5
  go_wp2_with fail
  refine (HO.out _ _ XD HU5.out).mono ?_
  rintro e w6 ⟨rfl, X6⟩
  go_wp2_with fail
  go_ret2
  exact ⟨rfl, XD.trans X6⟩
end Go.Proofs.YtmmdfijjpeglgaaGreatDoor
/- walks of package rat: Add, Sub, Mul, Div, Neg, Compare, Sign, Floor, Of -/
namespace Go.Proofs.YtmmdfijjpeglgaaGreatDoor
open Go.RowKit
set_option linter.unusedVariables false

set_option maxHeartbeats 1600000 in
set_option maxRecDepth 100000 in
theorem ratAdd_err (a b : ByteArray) (w : World) (ha : a.size ≤ 9223372036854775806) (hb : b.size ≤ 9223372036854775806) (h : errs2 a b ≠ 0) :
    Calls Tryz.prog 23 #[.string a, .string b] w fun e w' => e = .returned (.tuple #[.string ⟨#[]⟩, .int .i64 (errs2 a b)]) ∧ Ext w w' := by
  have HT := Lib.hid (fun f W => two_err a b f W ha hb h)
  generalize errs2 a b = p at *
  clear h
  go_enter Tryz.func23, Tryz.ntmps23
  go_wp2_with fail
  refine (HT.out _ _).mono ?_
  rintro e w2 ⟨rfl, X2⟩
  go_wp2_with fail
  go_ret2
  exact ⟨rfl, X2⟩

set_option maxHeartbeats 1600000 in
set_option maxRecDepth 100000 in
theorem ratAdd_ok (a b : ByteArray) (w : World) (htab : TabPow w) (ha : a.size ≤ 9223372036854775806) (hb : b.size ≤ 9223372036854775806) (h : errs2 a b = 0) :
    Calls Tryz.prog 23 #[.string a, .string b] w fun e w' => e = .returned (.tuple #[.string (outF (ratOf a + ratOf b)).1, .int .i64 (outF (ratOf a + ratOf b)).2]) ∧ Ext w w' := by
  obtain ⟨h1, h2⟩ := errs2_zero h
  have HT := Lib.hid (two_ok a b 86 (ratOf a + ratOf b) w htab ha hb h (fun _ _ => by kernel_rfl) (fun u v W hx hu hv => qAdd_any u v _ _ W hu hv (ratOf_QB (ratErr_ok h1)) (ratOf_QB (ratErr_ok h2))))
  obtain ⟨RR, hRR⟩ : ∃ R, outF (ratOf a + ratOf b) = R := ⟨_, rfl⟩
  rw [hRR] at HT ⊢
  obtain ⟨s, e0⟩ := RR
  clear hRR htab h h1 h2
  go_enter Tryz.func23, Tryz.ntmps23
  go_wp2_with fail
  refine HT.out.mono ?_
  rintro e w2 ⟨rfl, X2⟩
  go_wp2_with fail
  go_ret2
  exact ⟨rfl, X2⟩

set_option maxHeartbeats 1600000 in
set_option maxRecDepth 100000 in
theorem ratSub_err (a b : ByteArray) (w : World) (ha : a.size ≤ 9223372036854775806) (hb : b.size ≤ 9223372036854775806) (h : errs2 a b ≠ 0) :
    Calls Tryz.prog 24 #[.string a, .string b] w fun e w' => e = .returned (.tuple #[.string ⟨#[]⟩, .int .i64 (errs2 a b)]) ∧ Ext w w' := by
  have HT := Lib.hid (fun f W => two_err a b f W ha hb h)
  generalize errs2 a b = p at *
  clear h
  go_enter Tryz.func24, Tryz.ntmps24
  go_wp2_with fail
  refine (HT.out _ _).mono ?_
  rintro e w2 ⟨rfl, X2⟩
  go_wp2_with fail
  go_ret2
  exact ⟨rfl, X2⟩

set_option maxHeartbeats 1600000 in
set_option maxRecDepth 100000 in
theorem ratSub_ok (a b : ByteArray) (w : World) (htab : TabPow w) (ha : a.size ≤ 9223372036854775806) (hb : b.size ≤ 9223372036854775806) (h : errs2 a b = 0) :
    Calls Tryz.prog 24 #[.string a, .string b] w fun e w' => e = .returned (.tuple #[.string (outF (ratOf a - ratOf b)).1, .int .i64 (outF (ratOf a - ratOf b)).2]) ∧ Ext w w' := by
  obtain ⟨h1, h2⟩ := errs2_zero h
  have HT := Lib.hid (two_ok a b 87 (ratOf a - ratOf b) w htab ha hb h (fun _ _ => by kernel_rfl) (fun u v W hx hu hv => qSub_any u v _ _ W hu hv (ratOf_QB (ratErr_ok h1)) (ratOf_QB (ratErr_ok h2))))
  obtain ⟨RR, hRR⟩ : ∃ R, outF (ratOf a - ratOf b) = R := ⟨_, rfl⟩
  rw [hRR] at HT ⊢
  obtain ⟨s, e0⟩ := RR
  clear hRR htab h h1 h2
  go_enter Tryz.func24, Tryz.ntmps24
  go_wp2_with fail
  refine HT.out.mono ?_
  rintro e w2 ⟨rfl, X2⟩
  go_wp2_with fail
  go_ret2
  exact ⟨rfl, X2⟩

set_option maxHeartbeats 1600000 in
set_option maxRecDepth 100000 in
theorem ratMul_err (a b : ByteArray) (w : World) (ha : a.size ≤ 9223372036854775806) (hb : b.size ≤ 9223372036854775806) (h : errs2 a b ≠ 0) :
    Calls Tryz.prog 30 #[.string a, .string b] w fun e w' => e = .returned (.tuple #[.string ⟨#[]⟩, .int .i64 (errs2 a b)]) ∧ Ext w w' := by
  have HT := Lib.hid (fun f W => two_err a b f W ha hb h)
  generalize errs2 a b = p at *
  clear h
  go_enter Tryz.func30, Tryz.ntmps30
  go_wp2_with fail
  refine (HT.out _ _).mono ?_
  rintro e w2 ⟨rfl, X2⟩
  go_wp2_with fail
  go_ret2
  exact ⟨rfl, X2⟩

set_option maxHeartbeats 1600000 in
set_option maxRecDepth 100000 in
theorem ratMul_ok (a b : ByteArray) (w : World) (htab : TabPow w) (ha : a.size ≤ 9223372036854775806) (hb : b.size ≤ 9223372036854775806) (h : errs2 a b = 0) :
    Calls Tryz.prog 30 #[.string a, .string b] w fun e w' => e = .returned (.tuple #[.string (outF (ratOf a * ratOf b)).1, .int .i64 (outF (ratOf a * ratOf b)).2]) ∧ Ext w w' := by
  obtain ⟨h1, h2⟩ := errs2_zero h
  have HT := Lib.hid (two_ok a b 95 (ratOf a * ratOf b) w htab ha hb h (fun _ _ => by kernel_rfl) (fun u v W hx hu hv => qMul_any u v _ _ W hu hv (ratOf_QB (ratErr_ok h1)) (ratOf_QB (ratErr_ok h2))))
  obtain ⟨RR, hRR⟩ : ∃ R, outF (ratOf a * ratOf b) = R := ⟨_, rfl⟩
  rw [hRR] at HT ⊢
  obtain ⟨s, e0⟩ := RR
  clear hRR htab h h1 h2
  go_enter Tryz.func30, Tryz.ntmps30
  go_wp2_with fail
  refine HT.out.mono ?_
  rintro e w2 ⟨rfl, X2⟩
  go_wp2_with fail
  go_ret2
  exact ⟨rfl, X2⟩

set_option maxHeartbeats 1600000 in
set_option maxRecDepth 100000 in
theorem ratDiv_err (a b : ByteArray) (w : World) (ha : a.size ≤ 9223372036854775806) (hb : b.size ≤ 9223372036854775806) (h : errs2 a b ≠ 0) :
    Calls Tryz.prog 31 #[.string a, .string b] w fun e w' => e = .returned (.tuple #[.string ⟨#[]⟩, .int .i64 (errs2 a b)]) ∧ Ext w w' := by
  have HCK := Lib.hid (fun v W (hv : Strs W v [a, b]) => checkAll_any v [a, b] W hv (by simp; omega) (errs2 a b) (by show firstF [ratErr a, ratErr b] = _; rfl))
  generalize errs2 a b = p at *
  have hpb : (p != 0) = true := by simp [h]
  clear h
  go_enter Tryz.func31, Tryz.ntmps31
  go_wp2_with fail
  refine (HCK.out _ _ (by exact lit_strs_at _ _ ([a, b] : List ByteArray) (by simp) _ (by first | rfl | simp))).mono ?_
  rintro e w2 ⟨rfl, X2⟩
  have XA := ((Ext.refl w).alloc (.cells #[.string a, .string b] 22)).trans X2
  go_wp2_with fail
  go_ret2
  exact ⟨rfl, XA⟩

set_option maxHeartbeats 1600000 in
set_option maxRecDepth 100000 in
theorem ratDiv_zero (a b : ByteArray) (w : World) (ha : a.size ≤ 9223372036854775806) (hb : b.size ≤ 9223372036854775806) (h : errs2 a b = 0) (hb0 : (b.toList == [48]) = true) :
    Calls Tryz.prog 31 #[.string a, .string b] w fun e w' => e = .returned (.tuple #[.string ⟨#[]⟩, .int .i64 18]) ∧ Ext w w' := by
  have HCK := Lib.hid (fun v W (hv : Strs W v [a, b]) => checkAll_any v [a, b] W hv (by simp; omega) 0 (by show firstF [ratErr a, ratErr b] = _; exact h))
  clear h
  go_enter Tryz.func31, Tryz.ntmps31
  go_wp2_with fail
  refine (HCK.out _ _ (by exact lit_strs_at _ _ ([a, b] : List ByteArray) (by simp) _ (by first | rfl | simp))).mono ?_
  rintro e w2 ⟨rfl, X2⟩
  have XA := ((Ext.refl w).alloc (.cells #[.string a, .string b] 22)).trans X2
  go_wp2_with fail
  go_ret2
  exact ⟨rfl, XA⟩

set_option maxHeartbeats 1600000 in
set_option maxRecDepth 100000 in
theorem ratDiv_ok (a b : ByteArray) (w : World) (htab : TabPow w) (ha : a.size ≤ 9223372036854775806) (hb : b.size ≤ 9223372036854775806) (h : errs2 a b = 0) (hb0 : (b.toList == [48]) = false) (hb1 : ratOf b ≠ 0) :
    Calls Tryz.prog 31 #[.string a, .string b] w fun e w' => e = .returned (.tuple #[.string (outF (ratOf a / ratOf b)).1, .int .i64 (outF (ratOf a / ratOf b)).2]) ∧ Ext w w' := by
  have HCK := Lib.hid (fun v W (hv : Strs W v [a, b]) => checkAll_any v [a, b] W hv (by simp; omega) 0 (by show firstF [ratErr a, ratErr b] = _; exact h))
  obtain ⟨h1, h2⟩ := errs2_zero h
  have HT := Lib.hid (fun W (hx : Ext w W) => two_ok a b 96 (ratOf a / ratOf b) W (tabPow_ext htab hx) ha hb h (fun _ _ => by kernel_rfl) (fun u v W hx hu hv => qDiv_any u v _ _ W hu hv (ratOf_QB (ratErr_ok h1)) (ratOf_QB (ratErr_ok h2)) hb1))
  obtain ⟨RR, hRR⟩ : ∃ R, outF (ratOf a / ratOf b) = R := ⟨_, rfl⟩
  rw [hRR] at HT ⊢
  obtain ⟨s, e0⟩ := RR
  clear hRR htab h h1 h2 hb1
  go_enter Tryz.func31, Tryz.ntmps31
  go_wp2_with fail
  refine (HCK.out _ _ (by exact lit_strs_at _ _ ([a, b] : List ByteArray) (by simp) _ (by first | rfl | simp))).mono ?_
  rintro e w2 ⟨rfl, X2⟩
  have XA := ((Ext.refl w).alloc (.cells #[.string a, .string b] 22)).trans X2
  go_wp2_with fail
  refine (HT.out _ XA).mono ?_
  rintro e w3 ⟨rfl, X3⟩
  go_wp2_with fail
  go_ret2
  exact ⟨rfl, XA.trans X3⟩

set_option maxHeartbeats 1600000 in
set_option maxRecDepth 100000 in
theorem ratNeg_err (a : ByteArray) (w : World) (ha : a.size ≤ 9223372036854775806) (h : ratErr a ≠ 0) :
    Calls Tryz.prog 25 #[.string a] w fun e w' => e = .returned (.tuple #[.string ⟨#[]⟩, .int .i64 (ratErr a)]) ∧ Ext w w' := by
  have HT := Lib.hid (fun f W => one_err a f W ha h)
  generalize ratErr a = p at *
  clear h
  go_enter Tryz.func25, Tryz.ntmps25
  go_wp2_with fail
  refine (HT.out _ _).mono ?_
  rintro e w2 ⟨rfl, X2⟩
  go_wp2_with fail
  go_ret2
  exact ⟨rfl, X2⟩

set_option maxHeartbeats 1600000 in
set_option maxRecDepth 100000 in
theorem ratNeg_ok (a : ByteArray) (w : World) (htab : TabPow w) (ha : a.size ≤ 9223372036854775806) (h : ratErr a = 0) :
    Calls Tryz.prog 25 #[.string a] w fun e w' => e = .returned (.tuple #[.string (outF (-ratOf a)).1, .int .i64 (outF (-ratOf a)).2]) ∧ Ext w w' := by
  have HT := Lib.hid (one_ok a 89 (-ratOf a) w htab ha h (fun _ _ => by kernel_rfl) (fun u W hx hu => qOpp_any u _ W hu))
  obtain ⟨RR, hRR⟩ : ∃ R, outF (-ratOf a) = R := ⟨_, rfl⟩
  rw [hRR] at HT ⊢
  obtain ⟨s, e0⟩ := RR
  clear hRR htab h
  go_enter Tryz.func25, Tryz.ntmps25
  go_wp2_with fail
  refine HT.out.mono ?_
  rintro e w2 ⟨rfl, X2⟩
  go_wp2_with fail
  go_ret2
  exact ⟨rfl, X2⟩

set_option maxHeartbeats 1600000 in
set_option maxRecDepth 100000 in
theorem ratFloor_err (a : ByteArray) (w : World) (ha : a.size ≤ 9223372036854775806) (h : ratErr a ≠ 0) :
    Calls Tryz.prog 35 #[.string a] w fun e w' => e = .returned (.tuple #[.string ⟨#[]⟩, .int .i64 (ratErr a)]) ∧ Ext w w' := by
  have HT := Lib.hid (fun f W => one_err a f W ha h)
  generalize ratErr a = p at *
  clear h
  go_enter Tryz.func35, Tryz.ntmps35
  go_wp2_with fail
  refine (HT.out _ _).mono ?_
  rintro e w2 ⟨rfl, X2⟩
  go_wp2_with fail
  go_ret2
  exact ⟨rfl, X2⟩

set_option maxHeartbeats 1600000 in
set_option maxRecDepth 100000 in
theorem ratFloor_ok (a : ByteArray) (w : World) (htab : TabPow w) (ha : a.size ≤ 9223372036854775806) (h : ratErr a = 0) :
    Calls Tryz.prog 35 #[.string a] w fun e w' => e = .returned (.tuple #[.string (outF ((((ratOf a).num / ((ratOf a).den : Int) : Int) : Rat))).1, .int .i64 (outF ((((ratOf a).num / ((ratOf a).den : Int) : Int) : Rat))).2]) ∧ Ext w w' := by
  have HT := Lib.hid (one_ok a 100 ((((ratOf a).num / ((ratOf a).den : Int) : Int) : Rat)) w htab ha h (fun _ _ => by kernel_rfl) (fun u W hx hu => qFloor_any u _ W hu (ratOf_QB (ratErr_ok h))))
  obtain ⟨RR, hRR⟩ : ∃ R, outF ((((ratOf a).num / ((ratOf a).den : Int) : Int) : Rat)) = R := ⟨_, rfl⟩
  rw [hRR] at HT ⊢
  obtain ⟨s, e0⟩ := RR
  clear hRR htab h
  go_enter Tryz.func35, Tryz.ntmps35
  go_wp2_with fail
  refine HT.out.mono ?_
  rintro e w2 ⟨rfl, X2⟩
  go_wp2_with fail
  go_ret2
  exact ⟨rfl, X2⟩

set_option maxHeartbeats 1600000 in
set_option maxRecDepth 100000 in
theorem ratCompare_err (a b : ByteArray) (w : World) (ha : a.size ≤ 9223372036854775806) (hb : b.size ≤ 9223372036854775806) (h : errs2 a b ≠ 0) :
    Calls Tryz.prog 33 #[.string a, .string b] w fun e w' => e = .returned (.tuple #[.int .i64 0, .int .i64 (errs2 a b)]) ∧ Ext w w' := by
  have HCK := Lib.hid (fun v W (hv : Strs W v [a, b]) => checkAll_any v [a, b] W hv (by simp; omega) (errs2 a b) (by show firstF [ratErr a, ratErr b] = _; rfl))
  generalize errs2 a b = p at *
  have hpb : (p != 0) = true := by simp [h]
  clear h
  go_enter Tryz.func33, Tryz.ntmps33
  go_wp2_with fail
  refine (HCK.out _ _ (by exact lit_strs_at _ _ ([a, b] : List ByteArray) (by simp) _ (by first | rfl | simp))).mono ?_
  rintro e w2 ⟨rfl, X2⟩
  have XA := ((Ext.refl w).alloc (.cells #[.string a, .string b] 22)).trans X2
  go_wp2_with fail
  go_ret2
  exact ⟨rfl, XA⟩

def cmpQ (a b : Rat) : Int := (a.num * b.den - b.num * a.den).sign

set_option maxHeartbeats 1600000 in
set_option maxRecDepth 100000 in
theorem ratCompare_ok (a b : ByteArray) (w : World) (ha : a.size ≤ 9223372036854775806) (hb : b.size ≤ 9223372036854775806) (h : errs2 a b = 0) :
    Calls Tryz.prog 33 #[.string a, .string b] w fun e w' => e = .returned (.tuple #[.int .i64 (cmpQ (ratOf a) (ratOf b)), .int .i64 0]) ∧ Ext w w' := by
  have HCK := Lib.hid (fun v W (hv : Strs W v [a, b]) => checkAll_any v [a, b] W hv (by simp; omega) 0 (by show firstF [ratErr a, ratErr b] = _; exact h))
  obtain ⟨h1, h2⟩ := errs2_zero h
  have HP1 := Lib.hid (fun W => parse_any a W (ratErr_ok h1) ha)
  have HP2 := Lib.hid (fun W => parse_any b W (ratErr_ok h2) hb)
  have HC := Lib.hid (fun (u v : Value) W hu hv => qCmp_any u v (ratOf a) (ratOf b) W hu hv (ratOf_QB (ratErr_ok h1)) (ratOf_QB (ratErr_ok h2)))
  rw [show ((ratOf a).num * ((ratOf b).den : Int) - (ratOf b).num * ((ratOf a).den : Int)).sign = cmpQ (ratOf a) (ratOf b) from rfl] at HC
  generalize cmpQ (ratOf a) (ratOf b) = sgn at *
  clear h h1 h2
  go_enter Tryz.func33, Tryz.ntmps33
  go_wp2_with fail
  refine (HCK.out _ _ (by exact lit_strs_at _ _ ([a, b] : List ByteArray) (by simp) _ (by first | rfl | simp))).mono ?_
  rintro e w2 ⟨rfl, X2⟩
  have XA := ((Ext.refl w).alloc (.cells #[.string a, .string b] 22)).trans X2
  go_wp2_with fail
  refine (HP1.out _).mono ?_
  rintro e w3 ⟨u3, rfl, h3, X3⟩
  have HU3 := Lib.hid h3
  have XB := XA.trans X3
  clear h3
  go_wp2_with fail
  refine (HP2.out _).mono ?_
  rintro e w4 ⟨u4, rfl, h4, X4⟩
  have HU3 := Lib.hid (HU3.out.ext X4)
  have HU4 := Lib.hid h4
  have XC := XB.trans X4
  clear h4
  go_wp2_with fail
  refine (HC.out _ _ _ HU3.out HU4.out).mono ?_
  rintro e w5 ⟨rfl, X5⟩
  go_wp2_with fail
  go_ret2
  exact ⟨rfl, XC.trans X5⟩

set_option maxHeartbeats 1600000 in
set_option maxRecDepth 100000 in
theorem ratSign_err (a : ByteArray) (w : World) (ha : a.size ≤ 9223372036854775806) (h : ratErr a ≠ 0) :
    Calls Tryz.prog 34 #[.string a] w fun e w' => e = .returned (.tuple #[.int .i64 0, .int .i64 (ratErr a)]) ∧ Ext w w' := by
  have HCK := Lib.hid (fun W => ratCheck_any a W ha)
  generalize ratErr a = p at *
  have hpb : (p != 0) = true := by simp [h]
  clear h
  go_enter Tryz.func34, Tryz.ntmps34
  go_wp2_with fail
  refine (HCK.out _).mono ?_
  rintro e w2 ⟨rfl, X2⟩
  go_wp2_with fail
  go_ret2
  exact ⟨rfl, X2⟩

set_option maxHeartbeats 1600000 in
set_option maxRecDepth 100000 in
theorem ratSign_ok (a : ByteArray) (w : World) (ha : a.size ≤ 9223372036854775806) (h : ratErr a = 0) :
    Calls Tryz.prog 34 #[.string a] w fun e w' => e = .returned (.tuple #[.int .i64 (ratOf a).num.sign, .int .i64 0]) ∧ Ext w w' := by
  have HCK := Lib.hid (fun W => ratCheck_any a W ha)
  rw [h] at HCK
  have HP1 := Lib.hid (fun W => parse_any a W (ratErr_ok h) ha)
  have HS := Lib.hid (fun (u : Value) W hu => qSign_any u (ratOf a) W hu)
  generalize (ratOf a).num.sign = sgn at *
  clear h
  go_enter Tryz.func34, Tryz.ntmps34
  go_wp2_with fail
  refine (HCK.out _).mono ?_
  rintro e w2 ⟨rfl, X2⟩
  go_wp2_with fail
  refine (HP1.out _).mono ?_
  rintro e w3 ⟨u3, rfl, h3, X3⟩
  have HU3 := Lib.hid h3
  clear h3
  go_wp2_with fail
  refine (HS.out _ _ HU3.out).mono ?_
  rintro e w4 ⟨rfl, X4⟩
  go_wp2_with fail
  go_ret2
  exact ⟨rfl, (X2.trans X3).trans X4⟩

set_option maxHeartbeats 1600000 in
set_option maxRecDepth 100000 in
theorem ratOf_zero (n : Int) (w : World) :
    Calls Tryz.prog 20 #[.int .i64 n, .int .i64 0] w fun e w' => e = .returned (.tuple #[.string ⟨#[]⟩, .int .i64 18]) ∧ Ext w w' := by
  go_enter Tryz.func20, Tryz.ntmps20
  go_wp2_with fail
  go_ret2
  exact ⟨rfl, Ext.refl _⟩

set_option maxHeartbeats 1600000 in
set_option maxRecDepth 100000 in
theorem ratOf_ok (n d : Int) (w : World) (htab : TabPow w) (h1 : -9223372036854775808 ≤ n) (h2 : n ≤ 9223372036854775807) (h3 : -9223372036854775808 ≤ d) (h4 : d ≤ 9223372036854775807) (hd : d ≠ 0) :
    Calls Tryz.prog 20 #[.int .i64 n, .int .i64 d] w fun e w' => e = .returned (.tuple #[.string (outF (Rat.divInt n d)).1, .int .i64 (outF (Rat.divInt n d)).2]) ∧ Ext w w' := by
  have HW1 := Lib.hid (fun W => whole_any n W h1 h2)
  have HW2 := Lib.hid (fun W => whole_any d W h3 h4)
  have hl : ∀ z : Int, -9223372036854775808 ≤ z → z ≤ 9223372036854775807 → (dig z.natAbs).length ≤ 1073741823 := fun z a b => by
    have := dig_len_lt (n := z.natAbs) (k := 2) (by show _ < 18446744073709551616; omega)
    omega
  have HFR := Lib.hid (fun (u v : Value) W hu hv => frac_any u v n d W hu hv hd (hl n h1 h2) (hl d h3 h4))
  have HT := Lib.hid (fun (u : Value) W (hx : Ext w W) (hu : QV W u (Rat.divInt n d)) => out_any u _ W hu (tabPow_ext htab hx))
  generalize Rat.divInt n d = Q at *
  have hdb : (d == 0) = false := by rw [beq_eq_false_iff_ne]; exact hd
  obtain ⟨RR, hRR⟩ : ∃ R, outF Q = R := ⟨_, rfl⟩
  rw [hRR] at HT ⊢
  obtain ⟨s, e0⟩ := RR
  clear hRR htab hd hl h1 h2 h3 h4
  go_enter Tryz.func20, Tryz.ntmps20
  go_wp2_with fail
  refine (HW1.out _).mono ?_
  rintro e w2 ⟨u2, rfl, g2, X2⟩
  have HU2 := Lib.hid g2
  clear g2
  go_wp2_with fail
  refine (HW2.out _).mono ?_
  rintro e w3 ⟨u3, rfl, g3, X3⟩
  have HU2 := Lib.hid (HU2.out.ext X3)
  have HU3 := Lib.hid g3
  have XA := X2.trans X3
  clear g3
  go_wp2_with fail
  refine (HFR.out _ _ _ HU2.out HU3.out).mono ?_
  rintro e w4 ⟨u4, rfl, g4, X4⟩
  have HU4 := Lib.hid g4
  have XB := XA.trans X4
  clear g4
  go_wp2_with fail
  refine (HT.out _ _ XB HU4.out).mono ?_
  rintro e w5 ⟨rfl, X5⟩
  go_wp2_with fail
  go_ret2
  exact ⟨rfl, XB.trans X5⟩
end Go.Proofs.YtmmdfijjpeglgaaGreatDoor
