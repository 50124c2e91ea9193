/- walks of package nat: Add, Sub, Mul, Compare, Divide, Gcd, product, Factorial, Binomial -/
import Derived.Test.YtecfphohmgbddaaGreatDoorNat2
namespace Go.Proofs.YtecfphohmgbddaaGreatDoor
open Go.RowKit
set_option linter.unusedVariables false

/-- a power of ten that stays one -/
def tenP (k : Nat) : Nat := 10 ^ k
theorem tenP_le {j k : Nat} (h : j ≤ k) : tenP j ≤ tenP k := Nat.pow_le_pow_right (by omega) h
theorem tenP_add (j k : Nat) : tenP j * tenP k = tenP (j + k) := (Nat.pow_add 10 j k).symm
theorem tenP_succ (k : Nat) : tenP (k + 1) = tenP k * 10 := Nat.pow_succ 10 k
theorem tenP_pos (k : Nat) : 0 < tenP k := Nat.pow_pos (by omega)
theorem small_lens {n k : Nat} (h : n < tenP (k + 1)) (hk : k ≤ 1000000) : (dig n).length ≤ 1073741824 ∧ (Lib.decDigits n).length ≤ 4294967295 := by
  have h1 := dig_len_lt (Nat.lt_of_lt_of_le h (pow10_B (k + 1)))
  have h2 := dd_len_lt h
  omega
theorem natErr_dig {s : ByteArray} (h : natErr s = 0) : numB s < tenP 2000 :=
  Nat.lt_of_lt_of_le (numB_lt h) (tenP_le (natErr_zero h).2)
theorem up_lt {n k : Nat} (hn : n < tenP k) : n < tenP (k + 1) := by rw [tenP_succ]; omega
theorem sum_lt {n m k : Nat} (hn : n < tenP k) (hm : m < tenP k) : n + m < tenP (k + 1) := by
  rw [tenP_succ]; omega
theorem prod_lt {n m : Nat} (hn : n < tenP 2000) (hm : m < tenP 2000) : n * m < tenP (3999 + 1) := by
  have h1 : n * m ≤ n * tenP 2000 := Nat.mul_le_mul_left n (Nat.le_of_lt hm)
  have h2 : n * tenP 2000 < tenP 2000 * tenP 2000 := Nat.mul_lt_mul_of_pos_right hn (tenP_pos 2000)
  rw [tenP_add] at h2
  exact Nat.lt_of_le_of_lt h1 h2

set_option maxHeartbeats 800000 in
set_option maxRecDepth 100000 in
theorem natAdd_err (a b : ByteArray) (w : World) (ha : a.size ≤ 9223372036854775807) (hb : b.size ≤ 9223372036854775807) (h : twoErr a b ≠ 0) :
    Calls Tryz.prog 16 #[.string a, .string b] w fun e w' => e = .returned (.tuple #[.string ⟨#[]⟩, .int .i64 (twoErr a b)]) ∧ Ext w w' := by
  have HT := two_any a b w ha hb
  unfold TwoPost at HT
  obtain ⟨t, ht⟩ : ∃ t, twoErr a b = t := ⟨_, rfl⟩
  rw [ht] at HT h ⊢
  have hne : (t != 0) = true := by simp [h]
  have HT := Lib.hid HT
  clear ht h
  go_enter Tryz.func16, Tryz.ntmps16
  go_wp2_with fail
  refine HT.out.mono ?_
  rintro e w1 ⟨u, v, rfl, X1, h0⟩
  clear h0
  go_wp2_with fail
  go_ret2
  exact ⟨rfl, X1⟩

set_option maxHeartbeats 800000 in
set_option maxRecDepth 100000 in
theorem natAdd_ok (a b : ByteArray) (w : World) (htab : TabPow w) (ha : a.size ≤ 9223372036854775807) (hb : b.size ≤ 9223372036854775807) (h : twoErr a b = 0) :
    Calls Tryz.prog 16 #[.string a, .string b] w fun e w' => e = .returned (.tuple #[.string (resF (numB a + numB b)).1, .int .i64 (resF (numB a + numB b)).2]) ∧ Ext w w' := by
  have HT := two_any a b w ha hb
  unfold TwoPost at HT
  rw [h] at HT
  have hna := natErr_dig (twoErr_zero h).1
  have hnb := natErr_dig (twoErr_zero h).2
  clear h
  generalize numB a = n at *
  generalize numB b = m at *
  have HT := Lib.hid HT
  have HTab := Lib.hid (fun W (hx : Ext w W) => tabPow_ext htab hx)
  obtain ⟨l1, _⟩ := small_lens (up_lt hna) (by omega)
  obtain ⟨l2, _⟩ := small_lens (up_lt hnb) (by omega)
  obtain ⟨l3, l4⟩ := small_lens (sum_lt hna hnb) (by omega)
  have L1 := Lib.hid l1
  have L2 := Lib.hid l2
  have L3 := Lib.hid l3
  have L4 := Lib.hid l4
  obtain ⟨s, hs⟩ : ∃ s, resF (n + m) = s := ⟨_, rfl⟩
  rw [hs]
  have HS := Lib.hid hs
  clear htab hna hnb l1 l2 l3 l4 hs
  go_enter Tryz.func16, Tryz.ntmps16
  go_wp2_with fail
  refine HT.out.mono ?_
  rintro e w1 ⟨u, v, rfl, X1, h0⟩
  obtain ⟨hu, hv⟩ := h0 trivial
  clear h0
  go_wp2_with fail
  refine (add_any u v n m _ hu hv L1.out L2.out).mono ?_
  rintro e w2 ⟨r, rfl, hr, X2⟩
  go_wp2_with fail
  refine (result_any r _ _ hr (HTab.out _ (X1.trans X2)) L3.out L4.out).mono ?_
  rintro e w3 ⟨rfl, X3⟩
  rw [HS.out]
  go_wp2_with fail
  go_ret2
  exact ⟨rfl, (X1.trans X2).trans X3⟩

set_option maxHeartbeats 800000 in
set_option maxRecDepth 100000 in
theorem natMul_err (a b : ByteArray) (w : World) (ha : a.size ≤ 9223372036854775807) (hb : b.size ≤ 9223372036854775807) (h : twoErr a b ≠ 0) :
    Calls Tryz.prog 24 #[.string a, .string b] w fun e w' => e = .returned (.tuple #[.string ⟨#[]⟩, .int .i64 (twoErr a b)]) ∧ Ext w w' := by
  have HT := two_any a b w ha hb
  unfold TwoPost at HT
  obtain ⟨t, ht⟩ : ∃ t, twoErr a b = t := ⟨_, rfl⟩
  rw [ht] at HT h ⊢
  have hne : (t != 0) = true := by simp [h]
  have HT := Lib.hid HT
  clear ht h
  go_enter Tryz.func24, Tryz.ntmps24
  go_wp2_with fail
  refine HT.out.mono ?_
  rintro e w1 ⟨u, v, rfl, X1, h0⟩
  clear h0
  go_wp2_with fail
  go_ret2
  exact ⟨rfl, X1⟩

set_option maxHeartbeats 800000 in
set_option maxRecDepth 100000 in
theorem natMul_ok (a b : ByteArray) (w : World) (htab : TabPow w) (ha : a.size ≤ 9223372036854775807) (hb : b.size ≤ 9223372036854775807) (h : twoErr a b = 0) :
    Calls Tryz.prog 24 #[.string a, .string b] w fun e w' => e = .returned (.tuple #[.string (resF (numB a * numB b)).1, .int .i64 (resF (numB a * numB b)).2]) ∧ Ext w w' := by
  have HT := two_any a b w ha hb
  unfold TwoPost at HT
  rw [h] at HT
  have hna := natErr_dig (twoErr_zero h).1
  have hnb := natErr_dig (twoErr_zero h).2
  clear h
  generalize numB a = n at *
  generalize numB b = m at *
  have HT := Lib.hid HT
  have HTab := Lib.hid (fun W (hx : Ext w W) => tabPow_ext htab hx)
  obtain ⟨l1, _⟩ := small_lens (up_lt hna) (by omega)
  obtain ⟨l2, _⟩ := small_lens (up_lt hnb) (by omega)
  obtain ⟨l3, l4⟩ := small_lens (prod_lt hna hnb) (by omega)
  have L1 := Lib.hid l1
  have L2 := Lib.hid l2
  have L3 := Lib.hid l3
  have L4 := Lib.hid l4
  obtain ⟨s, hs⟩ : ∃ s, resF (n * m) = s := ⟨_, rfl⟩
  rw [hs]
  have HS := Lib.hid hs
  clear htab hna hnb l1 l2 l3 l4 hs
  go_enter Tryz.func24, Tryz.ntmps24
  go_wp2_with fail
  refine HT.out.mono ?_
  rintro e w1 ⟨u, v, rfl, X1, h0⟩
  obtain ⟨hu, hv⟩ := h0 trivial
  clear h0
  go_wp2_with fail
  refine (mul_any u v n m _ hu hv L1.out L2.out).mono ?_
  rintro e w2 ⟨r, rfl, hr, X2⟩
  go_wp2_with fail
  refine (result_any r _ _ hr (HTab.out _ (X1.trans X2)) L3.out L4.out).mono ?_
  rintro e w3 ⟨rfl, X3⟩
  rw [HS.out]
  go_wp2_with fail
  go_ret2
  exact ⟨rfl, (X1.trans X2).trans X3⟩

set_option maxHeartbeats 800000 in
set_option maxRecDepth 100000 in
theorem natSub_err (a b : ByteArray) (w : World) (ha : a.size ≤ 9223372036854775807) (hb : b.size ≤ 9223372036854775807) (h : twoErr a b ≠ 0) :
    Calls Tryz.prog 17 #[.string a, .string b] w fun e w' => e = .returned (.tuple #[.string ⟨#[]⟩, .int .i64 (twoErr a b)]) ∧ Ext w w' := by
  have HT := two_any a b w ha hb
  unfold TwoPost at HT
  obtain ⟨t, ht⟩ : ∃ t, twoErr a b = t := ⟨_, rfl⟩
  rw [ht] at HT h ⊢
  have hne : (t != 0) = true := by simp [h]
  have HT := Lib.hid HT
  clear ht h
  go_enter Tryz.func17, Tryz.ntmps17
  go_wp2_with fail
  refine HT.out.mono ?_
  rintro e w1 ⟨u, v, rfl, X1, h0⟩
  clear h0
  go_wp2_with fail
  go_ret2
  exact ⟨rfl, X1⟩

set_option maxHeartbeats 800000 in
set_option maxRecDepth 100000 in
theorem natSub_lt (a b : ByteArray) (w : World) (htab : TabPow w) (ha : a.size ≤ 9223372036854775807) (hb : b.size ≤ 9223372036854775807) (h : twoErr a b = 0) (hlt : numB a < numB b) :
    Calls Tryz.prog 17 #[.string a, .string b] w fun e w' => e = .returned (.tuple #[.string ⟨#[]⟩, .int .i64 4]) ∧ Ext w w' := by
  have HT := two_any a b w ha hb
  unfold TwoPost at HT
  rw [h] at HT
  have hna := natErr_dig (twoErr_zero h).1
  have hnb := natErr_dig (twoErr_zero h).2
  clear h
  generalize numB a = n at *
  generalize numB b = m at *
  have HT := Lib.hid HT
  have HTab := Lib.hid (fun W (hx : Ext w W) => tabPow_ext htab hx)
  have hz : Hid (cmpZ n m = -1) := if_pos hlt
  clear htab hna hnb hlt
  go_enter Tryz.func17, Tryz.ntmps17
  go_wp2_with fail
  refine HT.out.mono ?_
  rintro e w1 ⟨u, v, rfl, X1, h0⟩
  obtain ⟨hu, hv⟩ := h0 trivial
  clear h0
  go_wp2_with fail
  refine (cmp_any u v n m _ hu hv).mono ?_
  rintro e w2 ⟨rfl, X2⟩
  rw [hz.out]
  go_wp2_with fail
  go_ret2
  exact ⟨rfl, X1.trans X2⟩

set_option maxHeartbeats 800000 in
set_option maxRecDepth 100000 in
theorem natSub_ok (a b : ByteArray) (w : World) (htab : TabPow w) (ha : a.size ≤ 9223372036854775807) (hb : b.size ≤ 9223372036854775807) (h : twoErr a b = 0) (hge : numB b ≤ numB a) :
    Calls Tryz.prog 17 #[.string a, .string b] w fun e w' => e = .returned (.tuple #[.string (resF (numB a - numB b)).1, .int .i64 (resF (numB a - numB b)).2]) ∧ Ext w w' := by
  have HT := two_any a b w ha hb
  unfold TwoPost at HT
  rw [h] at HT
  have hna := natErr_dig (twoErr_zero h).1
  have hnb := natErr_dig (twoErr_zero h).2
  clear h
  generalize numB a = n at *
  generalize numB b = m at *
  have HT := Lib.hid HT
  have HTab := Lib.hid (fun W (hx : Ext w W) => tabPow_ext htab hx)
  obtain ⟨z, hz⟩ : ∃ z, Hid (cmpZ n m = z) := ⟨_, rfl⟩
  have hz0 : 0 ≤ z := by
    rw [← hz.out]; unfold cmpZ
    rw [if_neg (by omega)]
    split <;> omega
  obtain ⟨l1, _⟩ := small_lens (up_lt hna) (by omega)
  obtain ⟨l3, l4⟩ := small_lens (n := n - m) (k := 2000) (Nat.lt_of_le_of_lt (Nat.sub_le _ _) (up_lt hna)) (by omega)
  have L1 := Lib.hid l1
  have L3 := Lib.hid l3
  have L4 := Lib.hid l4
  have HGE := Lib.hid hge
  obtain ⟨s, hs⟩ : ∃ s, resF (n - m) = s := ⟨_, rfl⟩
  rw [hs]
  have HS := Lib.hid hs
  clear htab hna hnb l1 l3 l4 hge hs
  go_enter Tryz.func17, Tryz.ntmps17
  go_wp2_with fail
  refine HT.out.mono ?_
  rintro e w1 ⟨u, v, rfl, X1, h0⟩
  obtain ⟨hu, hv⟩ := h0 trivial
  clear h0
  go_wp2_with fail
  refine (cmp_any u v n m _ hu hv).mono ?_
  rintro e w2 ⟨rfl, X2⟩
  rw [hz.out]
  go_wp2_with fail
  refine (sub_any u v n m _ (hu.ext X2) (hv.ext X2) L1.out HGE.out).mono ?_
  rintro e w3 ⟨r, rfl, hr, X3⟩
  go_wp2_with fail
  refine (result_any r _ _ hr (HTab.out _ ((X1.trans X2).trans X3)) L3.out L4.out).mono ?_
  rintro e w4 ⟨rfl, X4⟩
  rw [HS.out]
  go_wp2_with fail
  go_ret2
  exact ⟨rfl, ((X1.trans X2).trans X3).trans X4⟩

set_option maxHeartbeats 800000 in
set_option maxRecDepth 100000 in
theorem natCompare_ok (a b : ByteArray) (w : World) (htab : TabPow w) (ha : a.size ≤ 9223372036854775807) (hb : b.size ≤ 9223372036854775807) (h : twoErr a b = 0) :
    Calls Tryz.prog 62 #[.string a, .string b] w fun e w' => e = .returned (.tuple #[.int .i64 (cmpZ (numB a) (numB b)), .int .i64 0]) ∧ Ext w w' := by
  have HT := two_any a b w ha hb
  unfold TwoPost at HT
  rw [h] at HT
  have hna := natErr_dig (twoErr_zero h).1
  have hnb := natErr_dig (twoErr_zero h).2
  clear h
  generalize numB a = n at *
  generalize numB b = m at *
  have HT := Lib.hid HT
  have HTab := Lib.hid (fun W (hx : Ext w W) => tabPow_ext htab hx)
  obtain ⟨z, hz⟩ : ∃ z, cmpZ n m = z := ⟨_, rfl⟩
  rw [hz]
  have HZ := Lib.hid hz
  clear htab hna hnb hz
  go_enter Tryz.func62, Tryz.ntmps62
  go_wp2_with fail
  refine HT.out.mono ?_
  rintro e w1 ⟨u, v, rfl, X1, h0⟩
  obtain ⟨hu, hv⟩ := h0 trivial
  clear h0
  go_wp2_with fail
  refine (cmp_any u v n m _ hu hv).mono ?_
  rintro e w2 ⟨rfl, X2⟩
  rw [HZ.out]
  go_wp2_with fail
  go_ret2
  exact ⟨rfl, X1.trans X2⟩

/-- Div at two numbers -/
def DivAt (n m : Nat) : Prop := ∀ (v u : Value) (W : World), NatV W v n → NatV W u m → Calls Tryz.prog 74 #[v, u] W (DivPost n m W)
/-- Gcd at two numbers -/
def GcdAt (n m : Nat) : Prop := ∀ (v u : Value) (W : World), NatV W v n → NatV W u m → Calls Tryz.prog 76 #[v, u] W fun e w' => ∃ r, e = .returned r ∧ NatV w' r (Nat.gcd n m) ∧ Ext W w'

theorem mod_lt10 {n m : Nat} (hn : n < tenP 2000) : n % m < tenP (2000 + 1) := Nat.lt_of_le_of_lt (Nat.mod_le _ _) (up_lt hn)
theorem div_lt10 {n m : Nat} (hn : n < tenP 2000) : n / m < tenP (2000 + 1) := Nat.lt_of_le_of_lt (Nat.div_le_self _ _) (up_lt hn)

set_option maxHeartbeats 800000 in
set_option maxRecDepth 100000 in
theorem natDivide_err (a b : ByteArray) (w : World) (ha : a.size ≤ 9223372036854775807) (hb : b.size ≤ 9223372036854775807) (h : twoErr a b ≠ 0) :
    Calls Tryz.prog 25 #[.string a, .string b] w fun e w' => e = .returned (.tuple #[.string ⟨#[]⟩, .string ⟨#[]⟩, .int .i64 (twoErr a b)]) ∧ Ext w w' := by
  have HT := two_any a b w ha hb
  unfold TwoPost at HT
  obtain ⟨t, ht⟩ : ∃ t, twoErr a b = t := ⟨_, rfl⟩
  rw [ht] at HT h ⊢
  have hne : (t != 0) = true := by simp [h]
  have HT := Lib.hid HT
  clear ht h
  go_enter Tryz.func25, Tryz.ntmps25
  go_wp2_with fail
  refine HT.out.mono ?_
  rintro e w1 ⟨u, v, rfl, X1, h0⟩
  clear h0
  go_wp2_with fail
  go_ret3
  exact ⟨rfl, X1⟩

set_option maxHeartbeats 800000 in
set_option maxRecDepth 100000 in
theorem natDivide_zero (a b : ByteArray) (w : World) (htab : TabPow w) (ha : a.size ≤ 9223372036854775807) (hb : b.size ≤ 9223372036854775807) (h : twoErr a b = 0) (hm0 : numB b = 0) :
    Calls Tryz.prog 25 #[.string a, .string b] w fun e w' => e = .returned (.tuple #[.string ⟨#[]⟩, .string ⟨#[]⟩, .int .i64 18]) ∧ Ext w w' := by
  have HT := two_any a b w ha hb
  unfold TwoPost at HT
  rw [h] at HT
  have hna := natErr_dig (twoErr_zero h).1
  have hnb := natErr_dig (twoErr_zero h).2
  clear h
  generalize numB a = n at *
  generalize numB b = m at *
  have HT := Lib.hid HT
  have HTab := Lib.hid (fun W (hx : Ext w W) => tabPow_ext htab hx)
  subst hm0
  clear htab hna hnb
  go_enter Tryz.func25, Tryz.ntmps25
  go_wp2_with fail
  refine HT.out.mono ?_
  rintro e w1 ⟨u, v, rfl, X1, h0⟩
  obtain ⟨hu, hv⟩ := h0 trivial
  obtain ⟨vo, vc, rfl, _, _⟩ := hv.open
  have hz : (dig 0).length = 0 := by rw [dig_zero]; rfl
  rw [hz]
  clear h0 hv hz
  go_wp2_with fail
  go_ret3
  exact ⟨rfl, X1⟩

set_option maxHeartbeats 800000 in
set_option maxRecDepth 100000 in
theorem natDivide_ok (a b : ByteArray) (w : World) (htab : TabPow w) (ha : a.size ≤ 9223372036854775807) (hb : b.size ≤ 9223372036854775807) (h : twoErr a b = 0) (hm0 : 0 < numB b) (hD : DivAt (numB a) (numB b)) :
    Calls Tryz.prog 25 #[.string a, .string b] w fun e w' => e = .returned (.tuple #[.string (decT (numB a / numB b)), .string (decT (numB a % numB b)), .int .i64 0]) ∧ Ext w w' := by
  have HT := two_any a b w ha hb
  unfold TwoPost at HT
  rw [h] at HT
  have hna := natErr_dig (twoErr_zero h).1
  have hnb := natErr_dig (twoErr_zero h).2
  clear h
  generalize numB a = n at *
  generalize numB b = m at *
  have HT := Lib.hid HT
  have HTab := Lib.hid (fun W (hx : Ext w W) => tabPow_ext htab hx)
  obtain ⟨l1, l2⟩ := small_lens (div_lt10 (m := m) hna) (by omega)
  obtain ⟨l3, l4⟩ := small_lens (mod_lt10 (m := m) hna) (by omega)
  have L1 := Lib.hid l1
  have L2 := Lib.hid l2
  have L3 := Lib.hid l3
  have L4 := Lib.hid l4
  have HD := Lib.hid hD
  obtain ⟨q, hq⟩ : ∃ q, decT (n / m) = q := ⟨_, rfl⟩
  obtain ⟨r, hr⟩ : ∃ r, decT (n % m) = r := ⟨_, rfl⟩
  rw [hq, hr]
  have HQ := Lib.hid hq
  have HR := Lib.hid hr
  have hpos : (dig m).length ≠ 0 := by
    intro e
    have := dig_nil_iff.1 (List.eq_nil_of_length_eq_zero e)
    omega
  have hpb : (((dig m).length : Int) == 0) = false := by rw [beq_eq_false_iff_ne]; omega
  clear htab hna hnb l1 l2 l3 l4 hD hq hr hpos
  go_enter Tryz.func25, Tryz.ntmps25
  go_wp2_with fail
  refine HT.out.mono ?_
  rintro e w1 ⟨u, v, rfl, X1, h0⟩
  obtain ⟨hu, hv⟩ := h0 trivial
  have hv0 := Lib.hid hv
  obtain ⟨vo, vc, rfl, _, _⟩ := hv.open
  clear h0 hv
  go_wp2_with fail
  refine (HD.out u _ _ hu hv0.out).mono ?_
  rintro e w2 ⟨x, y, rfl, hx, hy, X2⟩
  go_wp2_with fail
  refine (text_any x _ _ hx (HTab.out _ (X1.trans X2)) L1.out L2.out).mono ?_
  rintro e w3 ⟨rfl, X3⟩
  rw [HQ.out]
  go_wp2_with fail
  refine (text_any y _ _ (hy.ext X3) (HTab.out _ ((X1.trans X2).trans X3)) L3.out L4.out).mono ?_
  rintro e w4 ⟨rfl, X4⟩
  rw [HR.out]
  go_wp2_with fail
  go_ret3
  exact ⟨rfl, ((X1.trans X2).trans X3).trans X4⟩

set_option maxHeartbeats 800000 in
set_option maxRecDepth 100000 in
theorem natGcd_err (a b : ByteArray) (w : World) (ha : a.size ≤ 9223372036854775807) (hb : b.size ≤ 9223372036854775807) (h : twoErr a b ≠ 0) :
    Calls Tryz.prog 26 #[.string a, .string b] w fun e w' => e = .returned (.tuple #[.string ⟨#[]⟩, .int .i64 (twoErr a b)]) ∧ Ext w w' := by
  have HT := two_any a b w ha hb
  unfold TwoPost at HT
  obtain ⟨t, ht⟩ : ∃ t, twoErr a b = t := ⟨_, rfl⟩
  rw [ht] at HT h ⊢
  have hne : (t != 0) = true := by simp [h]
  have HT := Lib.hid HT
  clear ht h
  go_enter Tryz.func26, Tryz.ntmps26
  go_wp2_with fail
  refine HT.out.mono ?_
  rintro e w1 ⟨u, v, rfl, X1, h0⟩
  clear h0
  go_wp2_with fail
  go_ret2
  exact ⟨rfl, X1⟩

set_option maxHeartbeats 800000 in
set_option maxRecDepth 100000 in
theorem natGcd_ok (a b : ByteArray) (w : World) (htab : TabPow w) (ha : a.size ≤ 9223372036854775807) (hb : b.size ≤ 9223372036854775807) (h : twoErr a b = 0) (hG : GcdAt (numB a) (numB b)) :
    Calls Tryz.prog 26 #[.string a, .string b] w fun e w' => e = .returned (.tuple #[.string (decT (Nat.gcd (numB a) (numB b))), .int .i64 0]) ∧ Ext w w' := by
  have HT := two_any a b w ha hb
  unfold TwoPost at HT
  rw [h] at HT
  have hna := natErr_dig (twoErr_zero h).1
  have hnb := natErr_dig (twoErr_zero h).2
  clear h
  generalize numB a = n at *
  generalize numB b = m at *
  have HT := Lib.hid HT
  have HTab := Lib.hid (fun W (hx : Ext w W) => tabPow_ext htab hx)
  have hg : Nat.gcd n m < tenP (2000 + 1) := by
    by_cases h0 : n = 0
    · subst h0; rw [Nat.gcd_zero_left]; exact up_lt hnb
    · exact Nat.lt_of_le_of_lt (Nat.gcd_le_left m (by omega)) (up_lt hna)
  obtain ⟨l1, l2⟩ := small_lens hg (by omega)
  have L1 := Lib.hid l1
  have L2 := Lib.hid l2
  have HG := Lib.hid hG
  obtain ⟨q, hq⟩ : ∃ q, decT (Nat.gcd n m) = q := ⟨_, rfl⟩
  rw [hq]
  have HQ := Lib.hid hq
  clear htab hna hnb l1 l2 hG hq hg
  go_enter Tryz.func26, Tryz.ntmps26
  go_wp2_with fail
  refine HT.out.mono ?_
  rintro e w1 ⟨u, v, rfl, X1, h0⟩
  obtain ⟨hu, hv⟩ := h0 trivial
  clear h0
  go_wp2_with fail
  refine (HG.out u v _ hu hv).mono ?_
  rintro e w2 ⟨x, rfl, hx, X2⟩
  go_wp2_with fail
  refine (text_any x _ _ hx (HTab.out _ (X1.trans X2)) L1.out L2.out).mono ?_
  rintro e w3 ⟨rfl, X3⟩
  rw [HQ.out]
  go_wp2_with fail
  go_ret2
  exact ⟨rfl, (X1.trans X2).trans X3⟩

/-- the product of the numbers from one on: d numbers -/
def prodF (lo : Nat) : Nat → Nat
  | 0 => 1
  | d + 1 => prodF lo d * (lo + d)
theorem prodF_le {lo B : Nat} : ∀ {d : Nat}, lo + d ≤ B + 1 → 1 ≤ B → prodF lo d ≤ B ^ d
  | 0, _, _ => Nat.le_refl _
  | d + 1, h, h1 => by
    rw [prodF, Nat.pow_succ]
    exact Nat.mul_le_mul (prodF_le (by omega) h1) (by omega)
theorem thousand (d : Nat) : (1000 : Nat) ^ d ≤ tenP (3 * d) := by
  induction d with
  | zero => exact Nat.le_refl _
  | succ d ih =>
    rw [Nat.pow_succ, show 3 * (d + 1) = 3 * d + 1 + 1 + 1 by omega, tenP_succ, tenP_succ, tenP_succ]
    omega
theorem prod_len {lo d : Nat} (h : lo + d ≤ 1001) (hd : d ≤ 1000) : prodF lo d < tenP (4000 + 1) := by
  have h1 := prodF_le (lo := lo) (B := 1000) (d := d) (by omega) (by omega)
  have h2 := thousand d
  have h3 := tenP_le (show 3 * d ≤ 4000 by omega)
  have h4 := tenP_pos 4000
  rw [tenP_succ]
  omega

set_option maxHeartbeats 1600000 in
set_option maxRecDepth 100000 in
theorem product_any (lo D : Nat) (hi : Int) (w : World) (h1 : (lo : Int) + (D : Int) = hi + 1) (h2 : lo + D ≤ 1001) (h3 : D ≤ 1000) :
    Calls Tryz.prog 78 #[.int .i64 lo, .int .i64 hi] w fun e w' => ∃ u, e = .returned u ∧ NatV w' u (prodF lo D) ∧ Ext w w' := by
  obtain ⟨wo, rfl⟩ : ∃ wo : World, wo = w := ⟨_, rfl⟩
  go_enter Tryz.func78, Tryz.ntmps78
  go_wp2_with fail
  refine (small_any 1 _ (by omega)).mono ?_
  rintro e w1 ⟨u1, rfl, hu1, X1⟩
  go_wp2_with fail
  go_loopw [5, 6] (fun ov iv wr => ∃ (d : Nat), d ≤ D ∧ iv = .int .i64 ((lo : Int) + (d : Int)) ∧ NatV wr ov (prodF lo d) ∧ Ext wo wr) (fun _ iv _ => (hi + 1 - intOf iv).toNat)
  case atStart => exact ⟨0, Nat.zero_le _, by simp, hu1, X1⟩
  case round =>
    obtain ⟨d, hd, rfl, hO, X⟩ := hrel
    by_cases hdD : d < D
    · have hle : (lo : Int) + (d : Int) ≤ hi := by omega
      obtain ⟨k, hk⟩ : ∃ k, lo + d = k := ⟨_, rfl⟩
      have hki : (lo : Int) + (d : Int) = (k : Int) := by omega
      have hk9 : k ≤ 1001 := by omega
      have hkle : (k : Int) ≤ hi := by omega
      obtain ⟨l1, _⟩ := small_lens (prod_len (lo := lo) (d := d) (by omega) (by omega)) (by omega)
      obtain ⟨l2, _⟩ := small_lens (n := k) (k := 3) (Nat.lt_of_lt_of_le (show k < 10 ^ 4 by omega) (Nat.le_refl _)) (by omega)
      have L1 := Lib.hid l1
      have L2 := Lib.hid l2
      have HK := Lib.hid hk
      clear l1 l2 hle hk
      go_wp2_with fail
      refine (small_any k _ (by omega)).mono ?_
      rintro e w2 ⟨u2, rfl, hu2, X2⟩
      go_wp2_with fail
      refine (mul_any _ _ _ _ _ (hO.ext X2) hu2 L1.out L2.out).mono ?_
      rintro e w3 ⟨u3, rfl, hu3, X3⟩
      go_wp2_with fail
      go_roundw
      case rel => exact ⟨d + 1, by omega, by first | go_num | (simp; omega), by rw [prodF, HK.out]; exact hu3, (X.trans X2).trans X3⟩
      case measure => simp [intOf]; omega
    · have hdl : d = D := by omega
      subst hdl
      have hgt : hi < (lo : Int) + (d : Int) := by omega
      go_wp2_with fail
      go_ret
      exact ⟨_, rfl, hO, X⟩
end Go.Proofs.YtecfphohmgbddaaGreatDoor
