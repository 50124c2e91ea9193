/- walks: long; the law NatProducts -/
import Derived.Test.YtecfphohmgbddaaGreatDoorNatU
import Derived.Test.YtecfphohmgbddaaGreatDoorNatW
import Derived.Test.YtecfphohmgbddaaGreatDoorNatY
import Derived.Test.YtecfphohmgbddaaGreatDoorBig15
namespace Go.Proofs.YtecfphohmgbddaaGreatDoor
open Go.RowKit
set_option linter.unusedVariables false

set_option maxHeartbeats 400000 in
set_option maxRecDepth 100000 in
theorem indexFunc_strs (v : Value) (us : List Value) (ps : List Bool) (g : Nat) (caps : Array Value) (w : World) (hv : Row w v us) (hl : ps.length = us.length)
    (eg : ∀ args w, (callFunc g args).run Tryz.prog w = .ok (.enter g args) w)
    (hp : ∀ (i : Nat) (u : Value) (q : Bool) (W : World), us[i]? = some u → ps[i]? = some q → Ext w W → Calls Tryz.prog g (#[u] ++ caps) W fun e W' => e = .returned (.bool q) ∧ Ext W W') :
    Calls Tryz.prog 113 #[v, .func (.func g) #[] caps] w fun e w' => e = .returned (.int .i64 (idxF id ps 0)) ∧ Ext w w' := by
  obtain ⟨ao, c, rfl, _, hlen, _, hc⟩ := hv
  have HP := Lib.hid hp; have HL := Lib.hid hl; have HC := Lib.hid hc
  clear hp hl hc
  go_enter Tryz.func113, Tryz.ntmps113
  go_wp2_with fail
  go_loopw [8] (fun i wr => ∃ k : Nat, k ≤ us.length ∧ i = .int .i64 k ∧ Ext w wr ∧ Hid (idxF id (ps.drop k) k = idxF id ps 0)) (fun i _ => us.length - (intOf i).toNat)
  case atStart => exact ⟨0, Nat.zero_le _, rfl, Ext.refl _, rfl⟩
  case round =>
    obtain ⟨k, hk, rfl, HX, HI⟩ := hrel
    by_cases hlt : k < us.length
    · obtain ⟨x, h1, _, _⟩ := get_lt hlt
      obtain ⟨q, hq1, hq2, _⟩ := get_lt (xs := ps) (k := k) (by rw [HL.out]; exact hlt)
      obtain ⟨b, off, rfl, hc0⟩ := HC.out k x h1.out
      have hcell := HX.cell hc0
      have hcall := HP.out k x q wr h1.out hq1.out HX
      clear hc0
      have HH := Lib.hid hcall; clear hcall
      cases q
      all_goals
        go_wp2_with fail
        refine HH.out.mono ?_
        rintro e w' ⟨rfl, HB⟩
        go_wp2_with fail
      · go_roundw
        case rel => exact ⟨k + 1, by omega, by go_num, HX.trans HB, by rw [← HI.out, hq2.out]; simp [Hid, idxF]⟩
        case measure => simp [intOf]; omega
      · go_ret
        exact ⟨ret_int (by rw [← HI.out, hq2.out]; simp [idxF]), HX.trans HB⟩
    · obtain ⟨h1, _⟩ := get_ge (xs := ps) (k := k) (by rw [HL.out]; exact hlt)
      go_wp2_with fail
      go_ret
      exact ⟨ret_int (by rw [← HI.out, h1.out]; rfl), HX⟩

set_option maxHeartbeats 400000 in
set_option maxRecDepth 100000 in
theorem containsFunc_strs (v : Value) (us : List Value) (ps : List Bool) (g : Nat) (caps : Array Value) (w : World) (hv : Row w v us) (hl : ps.length = us.length)
    (eg : ∀ args w, (callFunc g args).run Tryz.prog w = .ok (.enter g args) w)
    (hp : ∀ (i : Nat) (u : Value) (q : Bool) (W : World), us[i]? = some u → ps[i]? = some q → Ext w W → Calls Tryz.prog g (#[u] ++ caps) W fun e W' => e = .returned (.bool q) ∧ Ext W W')
    (q : Bool) (hq : Hid (ps.any id = q)) :
    Calls Tryz.prog 71 #[v, .func (.func g) #[] caps] w fun e w' => e = .returned (.bool q) ∧ Ext w w' := by
  obtain ⟨i, hi⟩ : ∃ i, Hid (idxF id ps 0 = i) := ⟨_, rfl⟩
  have hge := idxF_ge id ps 0 (Int.le_refl _)
  rw [hi.out, hq.out] at hge
  have HC := indexFunc_strs v us ps g caps w hv hl eg hp
  rw [hi.out] at HC
  have hge2 := Lib.hid hge; clear hge
  have HD := Lib.hid HC; clear HC hp hl
  go_enter Tryz.func71, Tryz.ntmps71
  go_wp2_with fail
  refine HD.out.mono ?_
  rintro e w' ⟨rfl, hx⟩
  go_wp2_with fail
  go_ret
  exact ⟨ret_bool (by have := hge2.out; cases q <;> simp at this <;> simp <;> omega), hx⟩

theorem cell_new (w : World) (x : Value) (e : TypeId) : (w.alloc (.cells #[x] e)).cell? ⟨w.heap.size, 0, none⟩ = some x := by simp [World.cell?_alloc_new]
theorem lit_strs (w : World) (e : TypeId) (xs : List ByteArray) (h : xs.length ≤ 17592186044416) :
    Strs (w.alloc (.cells (xs.map Value.string).toArray e)) (.slice (some ⟨w.heap.size, 0, none⟩) xs.length xs.length) xs := by
  have := World.ownsRow_lit (base := w.heap.size) (e := e) (size := 1) w (xs.map Value.string).toArray xs.length (Nat.le_refl _) (by unfold maxLen; omega) (by simp)
  exact own_rowOf this h
theorem lit_strs_at (w : World) (e : TypeId) (xs : List ByteArray) (h : xs.length ≤ 17592186044416) (k : Nat) (hk : k = w.heap.size) :
    Strs (w.alloc (.cells (xs.map Value.string).toArray e)) (.slice (some ⟨k, 0, none⟩) xs.length xs.length) xs := by
  subst hk; exact lit_strs w e xs h

set_option maxHeartbeats 400000 in
set_option maxRecDepth 100000 in
theorem longClo_any (s : ByteArray) (n : Int) (g : Nat) (W : World) (hc : W.cell? ⟨g, 0, none⟩ = some (.int .i64 n)) (hs : s.size ≤ 9223372036854775807) :
    Calls Tryz.prog 72 #[.string s, .pointer (some ⟨g, 0, none⟩)] W fun e W' => e = .returned (.bool (decide (n < (s.size : Int)))) ∧ Ext W W' := by
  go_enter Tryz.func72, Tryz.ntmps72
  go_wp2_with fail
  go_ret
  exact ⟨rfl, Ext.refl _⟩

set_option maxHeartbeats 400000 in
set_option maxRecDepth 100000 in
theorem long_any (n : Int) (v : Value) (l : List ByteArray) (w : World) (hv : Strs w v l) (hl : ∀ s ∈ l, s.size ≤ 9223372036854775807) (q : Bool) (hq : Hid (l.any (fun s => decide (n < (s.size : Int))) = q)) :
    Calls Tryz.prog 23 #[.int .i64 n, v] w fun e w' => e = .returned (.bool q) ∧ Ext w w' := by
  have HCF := Lib.hid (fun (W : World) (g : Nat) (hW : Ext w W) (hg : W.cell? ⟨g, 0, none⟩ = some (.int .i64 n)) =>
    containsFunc_strs v (l.map Value.string) (l.map fun s => decide (n < (s.size : Int))) 72 #[.pointer (some ⟨g, 0, none⟩)] W (hv.ext hW) (by rw [List.length_map, List.length_map]) (fun _ _ => by kernel_rfl)
    (fun i u' q' W2 g1 g2 hW2 => by
      simp only [List.getElem?_map, Option.map_eq_some_iff] at g1 g2
      obtain ⟨y, hy, rfl⟩ := g1
      obtain ⟨z, hz, rfl⟩ := g2
      rw [hy] at hz
      cases hz
      exact longClo_any y n g W2 (hW2.cell hg) (hl y (List.mem_of_getElem? hy)))
    q (by show _ = _; rw [← hq.out]; simp [List.any_map, Function.comp_def]))
  clear hv hl hq
  go_enter Tryz.func23, Tryz.ntmps23
  go_wp2_with fail
  refine (HCF.out _ _ ((Ext.refl w).alloc _) (by exact cell_new w _ _)).mono ?_
  rintro e w2 ⟨rfl, X2⟩
  go_wp2_with fail
  go_ret
  exact ⟨rfl, ((Ext.refl w).alloc _).trans X2⟩

set_option maxHeartbeats 1600000 in
set_option maxRecDepth 100000 in
theorem natProducts_err (a b : ByteArray) (w : World) (ha : a.size ≤ 9223372036854775807) (hb : b.size ≤ 9223372036854775807) (htab : TabPow w) (h : twoErr a b ≠ 0) :
    Calls Tryz.prog 5 #[.string a, .string b] w fun e w' => e = .returned (.bool true) ∧ Ext w w' := by
  have HF := Lib.hid (natFact_any w htab)
  obtain ⟨qa, hqa⟩ : ∃ q, natErr a = q := ⟨_, rfl⟩
  obtain ⟨qb, hqb⟩ : ∃ q, natErr b = q := ⟨_, rfl⟩
  have HEA := Lib.hid (fun W => natError_any a W ha qa hqa)
  have HEB := Lib.hid (fun W => natError_any b W hb qb hqb)
  have hft := firstF_two a b
  rw [hqa, hqb] at hft
  have HLG := Lib.hid (fun v W (hv : Strs W v [a, b]) (q : Bool) hq => long_any 120 v [a, b] W hv (by simp; omega) q hq)
  have HL := Lib.hid (fun v W (hv : Ints W v [qa, qb]) => first_any v [qa, qb] W hv (twoErr a b) hft)
  have HMul := Lib.hid (fun W => natMul_err a b W ha hb h)
  have HDiv := Lib.hid (fun W => natDivide_err a b W ha hb h)
  have HGcd := Lib.hid (fun W => natGcd_err a b W ha hb h)
  generalize twoErr a b = p at *
  have hpb : (p != 0) = true := by simp [h]
  obtain ⟨ql, hql⟩ : ∃ q, [a, b].any (fun s => decide (120 < (s.size : Int))) = q := ⟨_, rfl⟩
  have HLG2 := Lib.hid (fun v W hv => HLG.out v W hv ql hql)
  clear htab h hft hqa hqb hql HLG
  go_enter Tryz.func5, Tryz.ntmps5
  go_wp2_with fail
  refine HF.out.mono ?_
  rintro e w1 ⟨rfl, X1⟩
  go_wp2_with fail
  refine (HEA.out _).mono ?_
  rintro e w2 ⟨rfl, X2⟩
  go_wp2_with fail
  refine (HEB.out _).mono ?_
  rintro e w3 ⟨rfl, X3⟩
  have E3 := (X1.trans X2).trans X3
  clear X1 X2 X3
  go_wp2_with fail
  refine (HL.out _ _ (by exact lit_ints_at _ _ ([qa, qb] : List Int) (by simp) _ (by first | rfl | simp))).mono ?_
  rintro e w4 ⟨rfl, rfl⟩
  have E4 := E3.alloc (.cells #[.int .i64 qa, .int .i64 qb] 23)
  go_wp2_with fail
  refine (HLG2.out _ _ (by exact lit_strs_at _ _ ([a, b] : List ByteArray) (by simp) _ (by first | rfl | simp))).mono ?_
  rintro e w5 ⟨rfl, X5⟩
  have E5 := (E4.alloc (.cells #[.string a, .string b] 9)).trans X5
  clear E3 E4 X5
  go_wp2_with fail
  refine (HMul.out _).mono ?_
  rintro e w6 ⟨rfl, X6⟩
  have E6 := E5.trans X6
  go_wp2_with fail
  refine (HDiv.out _).mono ?_
  rintro e w7 ⟨rfl, X7⟩
  have E7 := E6.trans X7
  go_wp2_with fail
  refine (HGcd.out _).mono ?_
  rintro e w8 ⟨rfl, X8⟩
  have E8 := E7.trans X8
  clear E5 E6 E7 X6 X7 X8
  go_wp2_with fail
  go_ret
  exact ⟨by first | rfl | simp, E8⟩

set_option maxHeartbeats 1600000 in
set_option maxRecDepth 100000 in
theorem natProducts_long0 (a b : ByteArray) (w : World) (ha : a.size ≤ 9223372036854775807) (hb : b.size ≤ 9223372036854775807) (htab : TabPow w) (h : twoErr a b = 0) (hlong : 120 < a.size ∨ 120 < b.size) (hb0 : numB b = 0) :
    Calls Tryz.prog 5 #[.string a, .string b] w fun e w' => e = .returned (.bool true) ∧ Ext w w' := by
  have HF := Lib.hid (natFact_any w htab)
  obtain ⟨qa, hqa⟩ : ∃ q, natErr a = q := ⟨_, rfl⟩
  obtain ⟨qb, hqb⟩ : ∃ q, natErr b = q := ⟨_, rfl⟩
  have HEA := Lib.hid (fun W => natError_any a W ha qa hqa)
  have HEB := Lib.hid (fun W => natError_any b W hb qb hqb)
  have hft := firstF_two a b
  rw [hqa, hqb] at hft
  have HLG := Lib.hid (fun v W (hv : Strs W v [a, b]) (q : Bool) hq => long_any 120 v [a, b] W hv (by simp; omega) q hq)
  have HL := Lib.hid (fun v W (hv : Ints W v [qa, qb]) => first_any v [qa, qb] W hv 0 (by show _ = _; rw [hft, h]))
  obtain ⟨h1, h2⟩ := twoErr_zero h
  have ca := (natErr_zero h1).1
  have cb := (natErr_zero h2).1
  have sa := (natErr_zero h1).2
  have sb := (natErr_zero h2).2
  have hA := natErr_dig h1
  have hB := natErr_dig h2
  have dA := numB_dig h1
  have dB := numB_dig h2
  have HMul := Lib.hid (fun W (hx : Ext w W) => natMul_ok a b W (tabPow_ext htab hx) ha hb h)
  have HGcd := Lib.hid (fun W (hx : Ext w W) => natGcd_ok a b W (tabPow_ext htab hx) ha hb h (gcdAt_any _ _ (by omega) (by omega)))
  have HDiv := Lib.hid (fun W (hx : Ext w W) => natDivide_zero a b W (tabPow_ext htab hx) ha hb h hb0)
  have HLG2 := Lib.hid (fun v W hv => HLG.out v W hv true (by show _ = _; simp; omega))
  clear htab h hft h1 h2 ca cb sa sb hA hB dA dB hqa hqb HLG hlong hb0
  obtain ⟨R, hR⟩ : ∃ R, resF (numB a * numB b) = R := ⟨_, rfl⟩
  rw [hR] at HMul
  obtain ⟨Rs, Re⟩ := R
  obtain ⟨G, hG⟩ : ∃ G, decT (Nat.gcd (numB a) (numB b)) = G := ⟨_, rfl⟩
  rw [hG] at HGcd
  clear hR hG
  go_enter Tryz.func5, Tryz.ntmps5
  go_wp2_with fail
  refine HF.out.mono ?_
  rintro e w1 ⟨rfl, X1⟩
  go_wp2_with fail
  refine (HEA.out _).mono ?_
  rintro e w2 ⟨rfl, X2⟩
  go_wp2_with fail
  refine (HEB.out _).mono ?_
  rintro e w3 ⟨rfl, X3⟩
  have E3 := (X1.trans X2).trans X3
  clear X1 X2 X3
  go_wp2_with fail
  refine (HL.out _ _ (by exact lit_ints_at _ _ ([qa, qb] : List Int) (by simp) _ (by first | rfl | simp))).mono ?_
  rintro e w4 ⟨rfl, rfl⟩
  have E4 := E3.alloc (.cells #[.int .i64 qa, .int .i64 qb] 23)
  go_wp2_with fail
  refine (HLG2.out _ _ (by exact lit_strs_at _ _ ([a, b] : List ByteArray) (by simp) _ (by first | rfl | simp))).mono ?_
  rintro e w5 ⟨rfl, X5⟩
  have E5 := (E4.alloc (.cells #[.string a, .string b] 9)).trans X5
  clear E3 E4 X5
  go_wp2_with fail
  refine (HMul.out _ E5).mono ?_
  rintro e w6 ⟨rfl, X6⟩
  have E6 := E5.trans X6
  go_wp2_with fail
  refine (HDiv.out _ E6).mono ?_
  rintro e w7 ⟨rfl, X7⟩
  have E7 := E6.trans X7
  go_wp2_with fail
  refine (HGcd.out _ E7).mono ?_
  rintro e w8 ⟨rfl, X8⟩
  have E8 := E7.trans X8
  clear E5 E6 E7 X6 X7 X8
  go_wp2_with fail
  go_ret
  exact ⟨by first | rfl | simp, E8⟩

set_option maxHeartbeats 1600000 in
set_option maxRecDepth 100000 in
theorem natProducts_long1 (a b : ByteArray) (w : World) (ha : a.size ≤ 9223372036854775807) (hb : b.size ≤ 9223372036854775807) (htab : TabPow w) (h : twoErr a b = 0) (hlong : 120 < a.size ∨ 120 < b.size) (hb0 : 0 < numB b) :
    Calls Tryz.prog 5 #[.string a, .string b] w fun e w' => e = .returned (.bool true) ∧ Ext w w' := by
  have HF := Lib.hid (natFact_any w htab)
  obtain ⟨qa, hqa⟩ : ∃ q, natErr a = q := ⟨_, rfl⟩
  obtain ⟨qb, hqb⟩ : ∃ q, natErr b = q := ⟨_, rfl⟩
  have HEA := Lib.hid (fun W => natError_any a W ha qa hqa)
  have HEB := Lib.hid (fun W => natError_any b W hb qb hqb)
  have hft := firstF_two a b
  rw [hqa, hqb] at hft
  have HLG := Lib.hid (fun v W (hv : Strs W v [a, b]) (q : Bool) hq => long_any 120 v [a, b] W hv (by simp; omega) q hq)
  have HL := Lib.hid (fun v W (hv : Ints W v [qa, qb]) => first_any v [qa, qb] W hv 0 (by show _ = _; rw [hft, h]))
  obtain ⟨h1, h2⟩ := twoErr_zero h
  have ca := (natErr_zero h1).1
  have cb := (natErr_zero h2).1
  have sa := (natErr_zero h1).2
  have sb := (natErr_zero h2).2
  have hA := natErr_dig h1
  have hB := natErr_dig h2
  have dA := numB_dig h1
  have dB := numB_dig h2
  have HMul := Lib.hid (fun W (hx : Ext w W) => natMul_ok a b W (tabPow_ext htab hx) ha hb h)
  have HGcd := Lib.hid (fun W (hx : Ext w W) => natGcd_ok a b W (tabPow_ext htab hx) ha hb h (gcdAt_any _ _ (by omega) (by omega)))
  have HDiv := Lib.hid (fun W (hx : Ext w W) => natDivide_ok a b W (tabPow_ext htab hx) ha hb h hb0 (divAt_any _ _ hb0 (by omega)))
  have HLG2 := Lib.hid (fun v W hv => HLG.out v W hv true (by show _ = _; simp; omega))
  clear htab h hft h1 h2 ca cb sa sb hA hB dA dB hqa hqb HLG hlong hb0
  obtain ⟨R, hR⟩ : ∃ R, resF (numB a * numB b) = R := ⟨_, rfl⟩
  rw [hR] at HMul
  obtain ⟨Rs, Re⟩ := R
  obtain ⟨G, hG⟩ : ∃ G, decT (Nat.gcd (numB a) (numB b)) = G := ⟨_, rfl⟩
  rw [hG] at HGcd
  clear hR hG
  obtain ⟨D1, hD1⟩ : ∃ D, decT (numB a / numB b) = D := ⟨_, rfl⟩
  obtain ⟨D2, hD2⟩ : ∃ D, decT (numB a % numB b) = D := ⟨_, rfl⟩
  rw [hD1, hD2] at HDiv
  clear hD1 hD2
  go_enter Tryz.func5, Tryz.ntmps5
  go_wp2_with fail
  refine HF.out.mono ?_
  rintro e w1 ⟨rfl, X1⟩
  go_wp2_with fail
  refine (HEA.out _).mono ?_
  rintro e w2 ⟨rfl, X2⟩
  go_wp2_with fail
  refine (HEB.out _).mono ?_
  rintro e w3 ⟨rfl, X3⟩
  have E3 := (X1.trans X2).trans X3
  clear X1 X2 X3
  go_wp2_with fail
  refine (HL.out _ _ (by exact lit_ints_at _ _ ([qa, qb] : List Int) (by simp) _ (by first | rfl | simp))).mono ?_
  rintro e w4 ⟨rfl, rfl⟩
  have E4 := E3.alloc (.cells #[.int .i64 qa, .int .i64 qb] 23)
  go_wp2_with fail
  refine (HLG2.out _ _ (by exact lit_strs_at _ _ ([a, b] : List ByteArray) (by simp) _ (by first | rfl | simp))).mono ?_
  rintro e w5 ⟨rfl, X5⟩
  have E5 := (E4.alloc (.cells #[.string a, .string b] 9)).trans X5
  clear E3 E4 X5
  go_wp2_with fail
  refine (HMul.out _ E5).mono ?_
  rintro e w6 ⟨rfl, X6⟩
  have E6 := E5.trans X6
  go_wp2_with fail
  refine (HDiv.out _ E6).mono ?_
  rintro e w7 ⟨rfl, X7⟩
  have E7 := E6.trans X7
  go_wp2_with fail
  refine (HGcd.out _ E7).mono ?_
  rintro e w8 ⟨rfl, X8⟩
  have E8 := E7.trans X8
  clear E5 E6 E7 X6 X7 X8
  go_wp2_with fail
  go_ret
  exact ⟨by first | rfl | simp, E8⟩

theorem prod_lt240 {n m i j : Nat} (hn : n < 10 ^ i) (hm : m < 10 ^ j) (hi : i ≤ 120) (hj : j ≤ 120) : n * m < tenP (1999 + 1) := by
  have h1 : n < tenP 120 := Nat.lt_of_lt_of_le hn (tenP_le hi)
  have h2 : m < tenP 120 := Nat.lt_of_lt_of_le hm (tenP_le hj)
  have h3 : n * m ≤ n * tenP 120 := Nat.mul_le_mul_left n (Nat.le_of_lt h2)
  have h4 : n * tenP 120 < tenP 120 * tenP 120 := Nat.mul_lt_mul_of_pos_right h1 (tenP_pos 120)
  rw [tenP_add] at h4
  exact Nat.lt_of_lt_of_le (Nat.lt_of_le_of_lt h3 h4) (tenP_le (by omega))

set_option maxHeartbeats 1600000 in
set_option maxRecDepth 100000 in
theorem natProducts_short0 (a b : ByteArray) (w : World) (ha : a.size ≤ 9223372036854775807) (hb : b.size ≤ 9223372036854775807) (htab : TabPow w) (h : twoErr a b = 0) (hlong : a.size ≤ 120 ∧ b.size ≤ 120) (hb0 : numB b = 0) :
    Calls Tryz.prog 5 #[.string a, .string b] w fun e w' => e = .returned (.bool true) ∧ Ext w w' := by
  have HF := Lib.hid (natFact_any w htab)
  obtain ⟨qa, hqa⟩ : ∃ q, natErr a = q := ⟨_, rfl⟩
  obtain ⟨qb, hqb⟩ : ∃ q, natErr b = q := ⟨_, rfl⟩
  have HEA := Lib.hid (fun W => natError_any a W ha qa hqa)
  have HEB := Lib.hid (fun W => natError_any b W hb qb hqb)
  have hft := firstF_two a b
  rw [hqa, hqb] at hft
  have HLG := Lib.hid (fun v W (hv : Strs W v [a, b]) (q : Bool) hq => long_any 120 v [a, b] W hv (by simp; omega) q hq)
  have HL := Lib.hid (fun v W (hv : Ints W v [qa, qb]) => first_any v [qa, qb] W hv 0 (by show _ = _; rw [hft, h]))
  obtain ⟨h1, h2⟩ := twoErr_zero h
  have ca := (natErr_zero h1).1
  have cb := (natErr_zero h2).1
  have sa := (natErr_zero h1).2
  have sb := (natErr_zero h2).2
  have hA := natErr_dig h1
  have hB := natErr_dig h2
  have dA := numB_dig h1
  have dB := numB_dig h2
  have HMul := Lib.hid (fun W (hx : Ext w W) => natMul_ok a b W (tabPow_ext htab hx) ha hb h)
  have HGcd := Lib.hid (fun W (hx : Ext w W) => natGcd_ok a b W (tabPow_ext htab hx) ha hb h (gcdAt_any _ _ (by omega) (by omega)))
  have HDiv := Lib.hid (fun W (hx : Ext w W) => natDivide_zero a b W (tabPow_ext htab hx) ha hb h hb0)
  have HLG2 := Lib.hid (fun v W hv => HLG.out v W hv false (by show _ = _; simp; omega))
  have HRM := Lib.hid (fun W => rNatMul_any a b W ca.1 cb.1 (by omega) (by omega))
  have HRG := Lib.hid (fun W => by
    have := rNatGcd_any (numB a) (numB b) W (by rw [← decT_size, ← natErr_text h1]; omega) (by rw [← decT_size, ← natErr_text h2]; omega)
    rw [← natErr_text h1, ← natErr_text h2] at this
    exact this)
  rw [resF_small (prod_lt240 (numB_lt h1) (numB_lt h2) hlong.1 hlong.2)] at HMul
  obtain ⟨M, hM⟩ : ∃ M, decT (numB a * numB b) = M := ⟨_, rfl⟩
  obtain ⟨G, hG⟩ : ∃ G, decT (Nat.gcd (numB a) (numB b)) = G := ⟨_, rfl⟩
  rw [hM] at HMul HRM
  rw [hG] at HGcd HRG
  have hbb : (b.toList == [48]) = true := by
    have := natErr_text h2
    rw [hb0, decT_zero_iff.2 rfl] at this
    rw [this, Lib.toList_data]; rfl
  clear htab h hft h1 h2 ca cb sa sb hA hB dA dB hqa hqb HLG hlong hb0 hM hG
  go_enter Tryz.func5, Tryz.ntmps5
  go_wp2_with fail
  refine HF.out.mono ?_
  rintro e w1 ⟨rfl, X1⟩
  go_wp2_with fail
  refine (HEA.out _).mono ?_
  rintro e w2 ⟨rfl, X2⟩
  go_wp2_with fail
  refine (HEB.out _).mono ?_
  rintro e w3 ⟨rfl, X3⟩
  have E3 := (X1.trans X2).trans X3
  clear X1 X2 X3
  go_wp2_with fail
  refine (HL.out _ _ (by exact lit_ints_at _ _ ([qa, qb] : List Int) (by simp) _ (by first | rfl | simp))).mono ?_
  rintro e w4 ⟨rfl, rfl⟩
  have E4 := E3.alloc (.cells #[.int .i64 qa, .int .i64 qb] 23)
  go_wp2_with fail
  refine (HLG2.out _ _ (by exact lit_strs_at _ _ ([a, b] : List ByteArray) (by simp) _ (by first | rfl | simp))).mono ?_
  rintro e w5 ⟨rfl, X5⟩
  have E5 := (E4.alloc (.cells #[.string a, .string b] 9)).trans X5
  clear E3 E4 X5
  go_wp2_with fail
  refine (HMul.out _ E5).mono ?_
  rintro e w6 ⟨rfl, X6⟩
  have E6 := E5.trans X6
  go_wp2_with fail
  refine (HDiv.out _ E6).mono ?_
  rintro e w7 ⟨rfl, X7⟩
  have E7 := E6.trans X7
  go_wp2_with fail
  refine (HGcd.out _ E7).mono ?_
  rintro e w8 ⟨rfl, X8⟩
  have E8 := E7.trans X8
  clear E5 E6 E7 X6 X7 X8
  go_wp2_with fail
  refine (HRM.out _).mono ?_
  rintro e w9 ⟨rfl, X9⟩
  have E9 := E8.trans X9
  go_wp2_with fail
  refine (HRG.out _).mono ?_
  rintro e w10 ⟨rfl, X10⟩
  have E10 := E9.trans X10
  clear E8 E9 X9 X10
  go_wp2_with fail
  go_ret
  exact ⟨by first | rfl | simp, E10⟩

set_option maxHeartbeats 1600000 in
set_option maxRecDepth 100000 in
theorem natProducts_short1 (a b : ByteArray) (w : World) (ha : a.size ≤ 9223372036854775807) (hb : b.size ≤ 9223372036854775807) (htab : TabPow w) (h : twoErr a b = 0) (hlong : a.size ≤ 120 ∧ b.size ≤ 120) (hb0 : 0 < numB b) :
    Calls Tryz.prog 5 #[.string a, .string b] w fun e w' => e = .returned (.bool true) ∧ Ext w w' := by
  have HF := Lib.hid (natFact_any w htab)
  obtain ⟨qa, hqa⟩ : ∃ q, natErr a = q := ⟨_, rfl⟩
  obtain ⟨qb, hqb⟩ : ∃ q, natErr b = q := ⟨_, rfl⟩
  have HEA := Lib.hid (fun W => natError_any a W ha qa hqa)
  have HEB := Lib.hid (fun W => natError_any b W hb qb hqb)
  have hft := firstF_two a b
  rw [hqa, hqb] at hft
  have HLG := Lib.hid (fun v W (hv : Strs W v [a, b]) (q : Bool) hq => long_any 120 v [a, b] W hv (by simp; omega) q hq)
  have HL := Lib.hid (fun v W (hv : Ints W v [qa, qb]) => first_any v [qa, qb] W hv 0 (by show _ = _; rw [hft, h]))
  obtain ⟨h1, h2⟩ := twoErr_zero h
  have ca := (natErr_zero h1).1
  have cb := (natErr_zero h2).1
  have sa := (natErr_zero h1).2
  have sb := (natErr_zero h2).2
  have hA := natErr_dig h1
  have hB := natErr_dig h2
  have dA := numB_dig h1
  have dB := numB_dig h2
  have HMul := Lib.hid (fun W (hx : Ext w W) => natMul_ok a b W (tabPow_ext htab hx) ha hb h)
  have HGcd := Lib.hid (fun W (hx : Ext w W) => natGcd_ok a b W (tabPow_ext htab hx) ha hb h (gcdAt_any _ _ (by omega) (by omega)))
  have HDiv := Lib.hid (fun W (hx : Ext w W) => natDivide_ok a b W (tabPow_ext htab hx) ha hb h hb0 (divAt_any _ _ hb0 (by omega)))
  have HLG2 := Lib.hid (fun v W hv => HLG.out v W hv false (by show _ = _; simp; omega))
  have HRM := Lib.hid (fun W => rNatMul_any a b W ca.1 cb.1 (by omega) (by omega))
  have HRG := Lib.hid (fun W => by
    have := rNatGcd_any (numB a) (numB b) W (by rw [← decT_size, ← natErr_text h1]; omega) (by rw [← decT_size, ← natErr_text h2]; omega)
    rw [← natErr_text h1, ← natErr_text h2] at this
    exact this)
  rw [resF_small (prod_lt240 (numB_lt h1) (numB_lt h2) hlong.1 hlong.2)] at HMul
  obtain ⟨M, hM⟩ : ∃ M, decT (numB a * numB b) = M := ⟨_, rfl⟩
  obtain ⟨G, hG⟩ : ∃ G, decT (Nat.gcd (numB a) (numB b)) = G := ⟨_, rfl⟩
  rw [hM] at HMul HRM
  rw [hG] at HGcd HRG
  have hbb : (b.toList == [48]) = false := by
    rw [beq_eq_false_iff_ne]
    intro e
    rw [Lib.toList_data] at e
    have := bytes_of_list e
    rw [this] at hb0
    exact absurd hb0 (by decide)
  have HRD := Lib.hid (fun W => rNatDiv_any a b W ca.1 cb (by omega) (by omega) (by omega))
  obtain ⟨D1, hD1⟩ : ∃ D, decT (numB a / numB b) = D := ⟨_, rfl⟩
  obtain ⟨D2, hD2⟩ : ∃ D, decT (numB a % numB b) = D := ⟨_, rfl⟩
  rw [hD1, hD2] at HDiv HRD
  clear htab h hft h1 h2 ca cb sa sb hA hB dA dB hqa hqb HLG hlong hb0 hM hG hD1 hD2
  go_enter Tryz.func5, Tryz.ntmps5
  go_wp2_with fail
  refine HF.out.mono ?_
  rintro e w1 ⟨rfl, X1⟩
  go_wp2_with fail
  refine (HEA.out _).mono ?_
  rintro e w2 ⟨rfl, X2⟩
  go_wp2_with fail
  refine (HEB.out _).mono ?_
  rintro e w3 ⟨rfl, X3⟩
  have E3 := (X1.trans X2).trans X3
  clear X1 X2 X3
  go_wp2_with fail
  refine (HL.out _ _ (by exact lit_ints_at _ _ ([qa, qb] : List Int) (by simp) _ (by first | rfl | simp))).mono ?_
  rintro e w4 ⟨rfl, rfl⟩
  have E4 := E3.alloc (.cells #[.int .i64 qa, .int .i64 qb] 23)
  go_wp2_with fail
  refine (HLG2.out _ _ (by exact lit_strs_at _ _ ([a, b] : List ByteArray) (by simp) _ (by first | rfl | simp))).mono ?_
  rintro e w5 ⟨rfl, X5⟩
  have E5 := (E4.alloc (.cells #[.string a, .string b] 9)).trans X5
  clear E3 E4 X5
  go_wp2_with fail
  refine (HMul.out _ E5).mono ?_
  rintro e w6 ⟨rfl, X6⟩
  have E6 := E5.trans X6
  go_wp2_with fail
  refine (HDiv.out _ E6).mono ?_
  rintro e w7 ⟨rfl, X7⟩
  have E7 := E6.trans X7
  go_wp2_with fail
  refine (HGcd.out _ E7).mono ?_
  rintro e w8 ⟨rfl, X8⟩
  have E8 := E7.trans X8
  clear E5 E6 E7 X6 X7 X8
  go_wp2_with fail
  refine (HRM.out _).mono ?_
  rintro e w9 ⟨rfl, X9⟩
  have E9 := E8.trans X9
  go_wp2_with fail
  refine (HRG.out _).mono ?_
  rintro e w10 ⟨rfl, X10⟩
  have E10 := E9.trans X10
  clear E8 E9 X9 X10
  go_wp2_with fail
  refine (HRD.out _).mono ?_
  rintro e w11 ⟨rfl, X11⟩
  have E11 := E10.trans X11
  go_wp2_with fail
  go_ret
  exact ⟨by first | rfl | simp, E11⟩

theorem natProducts_walk (a b : ByteArray) (w : World) (ha : a.size ≤ 9223372036854775807) (hb : b.size ≤ 9223372036854775807) (htab : TabPow w) :
    Calls Tryz.prog 5 #[.string a, .string b] w fun e w' => e = .returned (.bool true) ∧ Ext w w' := by
  by_cases h : twoErr a b = 0
  · by_cases hl : 120 < a.size ∨ 120 < b.size
    · by_cases h0 : numB b = 0
      · exact natProducts_long0 a b w ha hb htab h hl h0
      · exact natProducts_long1 a b w ha hb htab h hl (by omega)
    · by_cases h0 : numB b = 0
      · exact natProducts_short0 a b w ha hb htab h (by omega) h0
      · exact natProducts_short1 a b w ha hb htab h (by omega) (by omega)
  · exact natProducts_err a b w ha hb htab h
end Go.Proofs.YtecfphohmgbddaaGreatDoor
