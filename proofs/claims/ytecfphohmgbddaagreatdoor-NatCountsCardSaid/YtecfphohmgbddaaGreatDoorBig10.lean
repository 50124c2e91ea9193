/- walks of package big: cmp.Compare of digits, Cmp, One -/
import Derived.Test.YtecfphohmgbddaaGreatDoorBig9
namespace Go.Proofs.YtecfphohmgbddaaGreatDoor
open Go.RowKit
set_option linter.unusedVariables false

def cmpZ (a b : Nat) : Int := if a < b then -1 else if b < a then 1 else 0
theorem cmpZ_int (a b : Nat) : Lib.compareInt (a : Int) (b : Int) = cmpZ a b := by
  unfold Lib.compareInt cmpZ
  by_cases h : a < b
  · rw [if_pos (by omega), if_pos h]
  · rw [if_neg (by omega), if_neg h]
    by_cases h2 : b < a
    · rw [if_pos (by omega), if_pos h2]
    · rw [if_neg (by omega), if_neg h2]

theorem isNaN_any (a : Nat) (w : World) : Calls Tryz.prog 147 #[.int .u32 a] w fun e w' => e = .returned (.bool false) ∧ w = w' := by
  have h : ((a : Int) != (a : Int)) = false := by simp
  go_enter Tryz.func147, Tryz.ntmps147
  go_wp2_with fail
  go_ret
  exact ⟨rfl, rfl⟩

set_option maxHeartbeats 800000 in
set_option maxRecDepth 100000 in
theorem compare32_any (a b : Nat) (w : World) : Calls Tryz.prog 112 #[.int .u32 a, .int .u32 b] w fun e w' => e = .returned (.int .i64 (cmpZ a b)) ∧ w = w' := by
  have hp : (a < b ∧ cmpZ a b = -1) ∨ (b < a ∧ cmpZ a b = 1) ∨ (a = b ∧ cmpZ a b = 0) := by
    unfold cmpZ
    by_cases h : a < b
    · exact .inl ⟨h, if_pos h⟩
    · by_cases h2 : b < a
      · exact .inr (.inl ⟨h2, by rw [if_neg h, if_pos h2]⟩)
      · exact .inr (.inr ⟨by omega, by rw [if_neg h, if_neg h2]⟩)
  generalize cmpZ a b = z at *
  have H1 := Lib.hid (isNaN_any a)
  have H2 := Lib.hid (isNaN_any b)
  rcases hp with ⟨h, rfl⟩ | ⟨h, rfl⟩ | ⟨h, rfl⟩
  · have hi : (a : Int) < (b : Int) := by omega
    clear h
    go_enter Tryz.func112, Tryz.ntmps112
    go_wp2_with fail
    refine (H1.out _).mono ?_
    rintro e w1 ⟨rfl, rfl⟩
    go_wp2_with fail
    refine (H2.out _).mono ?_
    rintro e w2 ⟨rfl, rfl⟩
    go_wp2_with fail
    go_ret
    exact ⟨rfl, rfl⟩
  · have hi : (b : Int) < (a : Int) := by omega
    have hi2 : (b : Int) ≤ (a : Int) := by omega
    clear h
    go_enter Tryz.func112, Tryz.ntmps112
    go_wp2_with fail
    refine (H1.out _).mono ?_
    rintro e w1 ⟨rfl, rfl⟩
    go_wp2_with fail
    refine (H2.out _).mono ?_
    rintro e w2 ⟨rfl, rfl⟩
    go_wp2_with fail
    go_ret
    exact ⟨rfl, rfl⟩
  · subst h
    go_enter Tryz.func112, Tryz.ntmps112
    go_wp2_with fail
    refine (H1.out _).mono ?_
    rintro e w1 ⟨rfl, rfl⟩
    go_wp2_with fail
    refine (H2.out _).mono ?_
    rintro e w2 ⟨rfl, rfl⟩
    go_wp2_with fail
    go_ret
    exact ⟨rfl, rfl⟩

/-- numbers by their digits from the top -/
theorem val_top {l : List Nat} {j d : Nat} (h : l[j]? = some d) : val l = val (l.take j) + 4294967296 ^ j * (d + 4294967296 * val (l.drop (j + 1))) := by
  obtain ⟨h1, h2⟩ := List.getElem?_eq_some_iff.1 h
  have h3 : l = l.take j ++ (d :: l.drop (j + 1)) := by
    rw [← h2, ← List.drop_eq_getElem_cons h1, List.take_append_drop]
  have h4 : val l = val (l.take j ++ (d :: l.drop (j + 1))) := by rw [← h3]
  rw [h4, val_append, List.length_take, Nat.min_eq_left (by omega), val]

theorem cmp_digit {a b : List Nat} {j x y : Nat} (ha : Dg a) (hb : Dg b) (hx : a[j]? = some x) (hy : b[j]? = some y) (he : a.drop (j + 1) = b.drop (j + 1)) (hne : x ≠ y) : cmpZ (val a) (val b) = cmpZ x y := by
  have e1 := val_top hx
  have e2 := val_top hy
  rw [← he] at e2
  have l1 := val_lt (ha.take j)
  have l2 := val_lt (hb.take j)
  have k1 : (a.take j).length = j := by rw [List.length_take]; have := (List.getElem?_eq_some_iff.1 hx).1; omega
  have k2 : (b.take j).length = j := by rw [List.length_take]; have := (List.getElem?_eq_some_iff.1 hy).1; omega
  rw [k1] at l1
  rw [k2] at l2
  generalize 4294967296 * val (a.drop (j + 1)) = T at *
  generalize 4294967296 ^ j = P at *
  have key : ∀ p q u v : Nat, u < P → v < P → p < q → u + P * (p + T) < v + P * (q + T) := by
    intro p q u v hu hv hpq
    have := Nat.mul_le_mul_left P (show p + 1 + T ≤ q + T by omega)
    have e3 : P * (p + 1 + T) = P * (p + T) + P := by rw [show p + 1 + T = (p + T) + 1 by omega, Nat.mul_add, Nat.mul_one]
    omega
  rcases Nat.lt_or_ge x y with h | h
  · have := key x y _ _ l1 l2 h
    rw [← e1, ← e2] at this
    unfold cmpZ
    rw [if_pos this, if_pos h]
  · have h : y < x := by omega
    have := key y x _ _ l2 l1 h
    rw [← e1, ← e2] at this
    unfold cmpZ
    rw [if_neg (by omega), if_pos this, if_neg (by omega), if_pos h]

theorem cmp_len {n m : Nat} (h : (dig n).length ≠ (dig m).length) : cmpZ n m = cmpZ (dig n).length (dig m).length := by
  rcases Nat.lt_or_ge (dig n).length (dig m).length with h1 | h1
  · have : n < m := by
      rcases Nat.lt_or_ge n m with h2 | h2
      · exact h2
      · have := dig_len_le h2; omega
    unfold cmpZ
    rw [if_pos this, if_pos h1]
  · have h1 : (dig m).length < (dig n).length := by omega
    have : m < n := by
      rcases Nat.lt_or_ge m n with h2 | h2
      · exact h2
      · have := dig_len_le h2; omega
    unfold cmpZ
    rw [if_neg (by omega), if_pos this, if_neg (by omega), if_pos h1]

set_option maxHeartbeats 1600000 in
set_option maxRecDepth 100000 in
theorem cmp_any (v u : Value) (n m : Nat) (w : World) (hv : NatV w v n) (hu : NatV w u m) :
    Calls Tryz.prog 67 #[v, u] w fun e w' => e = .returned (.int .i64 (cmpZ n m)) ∧ Ext w w' := by
  obtain ⟨wo, rfl⟩ : ∃ wo : World, wo = w := ⟨_, rfl⟩
  obtain ⟨ao, c, rfl, hlen, hc⟩ := hv.open
  obtain ⟨ao2, c2, rfl, hlen2, hc2⟩ := hu.open
  by_cases hl : (dig n).length = (dig m).length
  · have hz : cmpZ n m = cmpZ (val (dig n)) (val (dig m)) := by rw [val_dig, val_dig]
    rw [hz]
    have hd1 := dig_dg n
    have hd2 := dig_dg m
    generalize dig n = ds at *
    generalize dig m = ms at *
    have HL := Lib.hid hl
    rw [← hl]
    have HC := Lib.hid hc
    have HC2 := Lib.hid hc2
    have HD1 := Lib.hid hd1
    have HD2 := Lib.hid hd2
    have hnb : (((ds.length : Nat) : Int) != ((ds.length : Nat) : Int)) = false := by simp
    obtain ⟨Z, hZ⟩ : ∃ Z, Hid (cmpZ (val ds) (val ms) = Z) := ⟨_, rfl⟩
    rw [hZ.out]
    clear hl hc hc2 hd1 hd2 hv hu hz
    go_enter Tryz.func67, Tryz.ntmps67
    go_wp2_with fail
    go_loopw [5] (fun iv wr => ∃ (k : Nat), k ≤ ds.length ∧ iv = .int .i64 ((k : Int) - 1) ∧ Ext wo wr ∧ Hid (ds.drop k = ms.drop k)) (fun iv _ => ((intOf iv) + 1).toNat)
    case atStart => exact ⟨ds.length, Nat.le_refl _, rfl, Ext.refl _, by show _ = _; rw [List.drop_length, HL.out, List.drop_length]⟩
    case round =>
      obtain ⟨k, hk, rfl, X, HE⟩ := hrel
      by_cases h0 : k = 0
      · subst h0
        have hz0 : Z = 0 := by
          have h := HE.out
          rw [List.drop_zero, List.drop_zero] at h
          rw [← hZ.out, h]
          unfold cmpZ
          rw [if_neg (by omega), if_neg (by omega)]
        subst hz0
        go_wp2_with fail
        go_ret
        exact ⟨rfl, X⟩
      · obtain ⟨j, rfl⟩ : ∃ j, k = j + 1 := ⟨k - 1, by omega⟩
        obtain ⟨x, x1, x2, _⟩ := get_lt (show j < ds.length by omega)
        obtain ⟨y, y1, y2, _⟩ := get_lt (show j < ms.length by have := HL.out; omega)
        obtain ⟨b, off, rfl, hc0⟩ := (HC.out.ext X).at x1
        obtain ⟨b2, off2, rfl, hc02⟩ := (HC2.out.ext X).at y1
        have hcell : wr.cell? ⟨b, off + j, none⟩ = some (.int .u32 x) := hc0
        have hcell2 : wr.cell? ⟨b2, off2 + j, none⟩ = some (.int .u32 y) := hc02
        have hki : (j : Int) < (ds.length : Int) := by omega
        clear hc0 hc02 h0
        by_cases hxy : x = y
        · subst hxy
          have hb : ((x : Int) != (x : Int)) = false := by simp
          have hnext : Hid (ds.drop j = ms.drop j) := by show _ = _; rw [x2.out, y2.out, HE.out]
          go_wp2_with fail
          go_quiet (fail)
          go_wp2_with fail
          go_roundw
          case rel => exact ⟨j, by omega, rfl, X.drewN _, hnext⟩
          case measure => simp [intOf]
        · have hb : ((x : Int) != (y : Int)) = true := by simp; omega
          have hzz := cmp_digit HD1.out HD2.out x1.out y1.out HE.out hxy
          rw [hZ.out] at hzz
          have HCM : Hid (∀ W, Calls Tryz.prog 112 #[.int .u32 x, .int .u32 y] W fun e w' => e = .returned (.int .i64 (cmpZ x y)) ∧ w' = W) := fun W => (compare32_any x y W).mono (by rintro e w' ⟨h1, h2⟩; exact ⟨h1, h2.symm⟩)
          rw [← hzz] at HCM
          clear hxy hzz
          go_wp2_with fail
          go_quiet (fail)
          go_wp2_with fail
          have Xz := X.drewN nq
          have cz1 : (wr.drewN nq).cell? ⟨b, off + j, none⟩ = some (.int .u32 x) := (((Ext.refl wr).drewN nq).cell hcell)
          have cz2 : (wr.drewN nq).cell? ⟨b2, off2 + j, none⟩ = some (.int .u32 y) := (((Ext.refl wr).drewN nq).cell hcell2)
          clear hcell hcell2
          generalize wr.drewN nq = wz at *
          go_quiet ((go_at_call 112; exact Calls.quiet_of_same (HCM.out _)))
          go_wp2_with fail
          go_ret
          exact ⟨rfl, Xz.drewN _⟩
  · have hz := cmp_len hl
    have hlb : (((dig n).length : Int) != ((dig m).length : Int)) = true := by simp; omega
    have HCM := Tryz.cmp_Compare_int ((dig n).length : Int) ((dig m).length : Int) wo
    rw [cmpZ_int, ← hz] at HCM
    have HCM := Lib.hid HCM
    generalize cmpZ n m = z at *
    clear hl hz hc hc2 hv hu
    go_enter Tryz.func67, Tryz.ntmps67
    go_wp2_with fail
    refine HCM.out.mono ?_
    rintro e w1 ⟨rfl, rfl⟩
    go_wp2_with fail
    go_ret
    exact ⟨rfl, Ext.refl _⟩

set_option maxHeartbeats 800000 in
set_option maxRecDepth 100000 in
theorem one_any (v : Value) (n : Nat) (w : World) (hv : NatV w v n) :
    Calls Tryz.prog 83 #[v] w fun e w' => e = .returned (.bool (decide (n = 1))) ∧ Ext w w' := by
  obtain ⟨ao, c, rfl, hlen, hc⟩ := hv.open
  by_cases hl : (dig n).length = 1
  · obtain ⟨d, hd⟩ : ∃ d, dig n = [d] := by
      match h : dig n, hl with
      | [d], _ => exact ⟨d, rfl⟩
    have hnd : n = d := by
      have := val_dig n
      rw [hd] at this
      simpa [val] using this.symm
    rw [hd] at hc ⊢
    obtain ⟨b, off, rfl, hcell0⟩ := hc 0 (encD d) rfl
    have hcell : w.cell? ⟨b, off, none⟩ = some (.int .u32 d) := by rw [Nat.add_zero] at hcell0; exact hcell0
    subst hnd
    clear hcell0 hc hv hd hl hlen
    simp only [List.length_cons, List.length_nil, Nat.zero_add]
    by_cases h1 : n = 1
    · subst h1
      go_enter Tryz.func83, Tryz.ntmps83
      go_wp2_with fail
      go_ret
      exact ⟨rfl, Ext.refl _⟩
    · have hb : ((n : Int) == 1) = false := by rw [beq_eq_false_iff_ne]; omega
      have hq : Hid (decide (n = 1) = false) := by show _ = _; simp [h1]
      clear h1
      go_enter Tryz.func83, Tryz.ntmps83
      go_wp2_with fail
      go_ret
      exact ⟨by rw [hq.out]; rfl, Ext.refl _⟩
  · have hq : Hid (decide (n = 1) = false) := by
      show _ = _
      rw [decide_eq_false_iff_not]
      rintro rfl
      apply hl
      rw [dig_pos (by omega), show 1 / 4294967296 = 0 by omega, dig_zero]; rfl
    have hb : (((dig n).length : Int) == 1) = false := by rw [beq_eq_false_iff_ne]; omega
    clear hl hc hv
    go_enter Tryz.func83, Tryz.ntmps83
    go_wp2_with fail
    go_ret
    exact ⟨by rw [hq.out]; rfl, Ext.refl _⟩
end Go.Proofs.YtecfphohmgbddaaGreatDoor
