/- walks of the package cards: Deal, the walk -/
import Derived.Test.YtllhgkacbpgemaaDoorCards6
namespace Go.Proofs.YtllhgkacbpgemaaDoor
open Go.RowKit
set_option linter.unusedVariables false

set_option maxHeartbeats 800000 in
set_option maxRecDepth 100000 in
theorem deal_err1 (v : Value) (xs : List Int) (p k : Int) (w : World) (hv : Ints w v xs) (h : deckErr xs ≠ 0) :
    Calls Tryd.prog 19 #[v, .int .i64 p, .int .i64 k] w fun e w' => e = .returned (.tuple #[.slice none 0 0, .slice none 0 0, .int .i64 (deckErr xs)]) ∧ w = w' := by
  have HC := Lib.hid (check_any v xs w hv)
  have hb : (deckErr xs != 0) = true := by simp [h]
  clear hv h
  generalize deckErr xs = q at *
  go_enter Tryd.func19, Tryd.ntmps19
  go_wp2_with fail
  refine HC.out.mono ?_
  rintro e w1 ⟨rfl, rfl⟩
  go_wp2_with fail
  go_ret3
  exact ⟨rfl, rfl⟩

set_option maxHeartbeats 800000 in
set_option maxRecDepth 100000 in
theorem deal_err2 (v : Value) (xs : List Int) (p k : Int) (w : World) (hv : Ints w v xs) (h : deckErr xs = 0) (hp : p < 1 ∨ 52 < p ∨ k < 0 ∨ 52 < k) :
    Calls Tryd.prog 19 #[v, .int .i64 p, .int .i64 k] w fun e w' => e = .returned (.tuple #[.slice none 0 0, .slice none 0 0, .int .i64 4]) ∧ w = w' := by
  have HC := check_any v xs w hv
  rw [h] at HC
  have HC := Lib.hid HC
  clear hv h
  have hp' : p < 1 ∨ (1 ≤ p ∧ 52 < p) ∨ (1 ≤ p ∧ p ≤ 52 ∧ k < 0) ∨ (1 ≤ p ∧ p ≤ 52 ∧ 0 ≤ k ∧ 52 < k) := by omega
  clear hp
  rcases hp' with h | ⟨h1, h2⟩ | ⟨h1, h2, h3⟩ | ⟨h1, h2, h3, h4⟩
  all_goals
    go_enter Tryd.func19, Tryd.ntmps19
    go_wp2_with fail
    refine HC.out.mono ?_
    rintro e w1 ⟨rfl, rfl⟩
    go_wp2_with fail
    go_ret3
    exact ⟨rfl, rfl⟩

set_option maxHeartbeats 800000 in
set_option maxRecDepth 100000 in
theorem deal_err3 (v : Value) (xs : List Int) (p k n : Nat) (w : World) (hv : Ints w v xs) (h : deckErr xs = 0) (h1 : 1 ≤ p) (h2 : p ≤ 52) (h3 : k ≤ 52) (hn : p * k = n) (h4 : xs.length < n) :
    Calls Tryd.prog 19 #[v, .int .i64 p, .int .i64 k] w fun e w' => e = .returned (.tuple #[.slice none 0 0, .slice none 0 0, .int .i64 8]) ∧ w = w' := by
  have HC := check_any v xs w hv
  rw [h] at HC
  have HC := Lib.hid HC
  obtain ⟨ao, c, rfl, hlen, _⟩ := hv.open
  have hn2 : n ≤ 2704 := by rw [← hn]; exact Nat.mul_le_mul h2 h3
  have hpn : (p : Int) * (k : Int) = (n : Int) := by rw [← hn]; simp
  have hw1 : (-9223372036854775808 : Int) ≤ (p : Int) * (k : Int) := by rw [hpn]; omega
  have hw2 : (p : Int) * (k : Int) ≤ 9223372036854775807 := by rw [hpn]; omega
  clear hv h hn
  go_enter Tryd.func19, Tryd.ntmps19
  go_wp2_with fail
  refine HC.out.mono ?_
  rintro e w1 ⟨rfl, rfl⟩
  go_wp2_with fail
  go_ret3
  exact ⟨rfl, rfl⟩

set_option maxHeartbeats 3200000 in
set_option maxRecDepth 100000 in
theorem deal_ok (v : Value) (xs : List Int) (p k n : Nat) (w : World) (hv : Ints w v xs) (h : deckErr xs = 0) (h1 : 1 ≤ p) (h2 : p ≤ 52) (h3 : k ≤ 52) (hn : p * k = n) (h4 : n ≤ xs.length) :
    Calls Tryd.prog 19 #[v, .int .i64 p, .int .i64 k] w fun e w' => ∃ hv rv, e = .returned (.tuple #[hv, rv, .int .i64 0]) ∧ Rows (Value.int .i64) w' hv (handL xs p k 0) ∧ Ints w' rv (xs.drop n) ∧ Ext w w' := by
  have h52 := (deckErr_zero h).1
  have HC := check_any v xs w hv
  rw [h] at HC
  have HC := Lib.hid HC
  obtain ⟨ao, c, rfl, hlen, hlc, hnn, hc⟩ := hv.open'
  have hn2 : n ≤ 52 := by omega
  have hpn : (p : Int) * (k : Int) = (n : Int) := by rw [← hn]; simp
  have hw1 : (-9223372036854775808 : Int) ≤ (p : Int) * (k : Int) := by rw [hpn]; omega
  have hw2 : (p : Int) * (k : Int) ≤ 9223372036854775807 := by rw [hpn]; omega
  have hd : ∃ rv : Value, Hid (rv = (if n < c then .slice ((ao.map (·.add n))) (xs.length - n) (c - n) else .slice ao 0 0)) ∧ Ints w rv (xs.drop n) := by
    refine ⟨_, rfl, ?_⟩
    by_cases hnc : n < c
    · rw [if_pos hnc]
      cases ao with
      | none => have := hnn rfl; omega
      | some ad => exact hc.drop hlc hlen h4
    · rw [if_neg hnc, List.drop_eq_nil_of_le (by omega)]
      exact ints_none w ao
  obtain ⟨rv, hrv, hrd⟩ := hd
  have HK := Lib.hid (fun (W : World) (hW : Ext w W) => clone_ints rv (xs.drop n) W (hrd.ext hW))
  have HCC := Lib.hid hc
  have HNK := Lib.hid hn
  have hmk := fun W => run_make_row' (P := Tryd.prog) 35 22 (.slice none 0 0) 24 Tryd.underlying35 info_row rfl .i64 .i64 p (by omega) (by omega) W
  have hli : (n : Int) ≤ xs.length := by omega
  have b1 : decide ((p : Int) < 1) = false := by simp; omega
  have b2 : decide (52 < (p : Int)) = false := by simp; omega
  have b3 : decide ((k : Int) < 0) = false := by simp
  have b4 : decide (52 < (k : Int)) = false := by simp; omega
  have b5 : decide (p < 1) = false := by simp; omega
  have b6 : decide (52 < p) = false := by simp; omega
  have b7 : decide (52 < k) = false := by simp; omega
  have b8 : decide (xs.length < n) = false := by simp; omega
  have b9 : decide ((xs.length : Int) < (n : Int)) = false := by simp; omega
  have h4' : n ≤ c := by omega
  clear h hv hrd hc hn
  have HRV := Lib.hid hrv
  clear hrv
  go_enter Tryd.func19, Tryd.ntmps19
  go_wp2_with fail
  refine HC.out.mono ?_
  rintro e w1 ⟨rfl, rfl⟩
  go_wp2_with fail
  go_loopw [46] (fun i wr => ∃ (t q r : Nat) (us : List Value), t ≤ n ∧ i = .int .i64 t ∧ Hid (t = q * p + r) ∧ r < p ∧ Ext w wr ∧ w.heap.size + 1 ≤ wr.heap.size ∧ Hands wr w.heap.size (w.heap.size + 1) w.heap.size p us (handL xs p q r)) (fun i _ => n - (intOf i).toNat)
  case atStart => exact ⟨0, 0, 0, _, Nat.zero_le _, rfl, by simp [Hid], by omega, (Ext.refl w).alloc _, by simp, Hands.start w xs p h2⟩
  case round =>
    obtain ⟨t, q, r, us, ht, rfl, HTQ, hr, HX, hsz, HH⟩ := hrel
    by_cases hlt : t < n
    · obtain ⟨x, x1, _, _⟩ := get_lt (xs := xs) (k := t) (by omega)
      obtain ⟨b, off, rfl, hcell0⟩ := HCC.out.at x1
      have hcell := HX.cell hcell0
      have hmod : (t : Int) % (p : Int) = (r : Int) := by
        rw [HTQ.out]
        have : (((q * p + r : Nat) : Int)) % (p : Int) = (((q * p + r) % p : Nat) : Int) := by simp
        rw [this, Nat.mul_comm, Nat.mul_add_mod, Nat.mod_eq_of_lt hr]
      have hmod2 : (t : Int).tmod (p : Int) = (r : Int) := by rw [Int.tmod_eq_emod_of_nonneg (by omega)]; exact hmod
      have hp0 : ¬ p = 0 := by omega
      clear hmod
      obtain ⟨u, hu, _, _⟩ := get_lt (xs := us) (k := r) (by rw [own_num HH.row]; exact hr)
      have hxs := handL_get xs p q r r hr
      have hOu := HH.each r u _ hu.out hxs
      have c1 := own_cell HH.row hu
      have c1b := ((Ext.refl wr).alloc (.cells #[.int .i64 x] 3)).cell c1
      have hhl : (handAt xs p q r r).length = q := by simp [handAt]
      rw [hhl] at hOu
      have hq52 : q ≤ 52 := by
        have e := HTQ.out
        have : q * 1 ≤ q * p := Nat.mul_le_mul_left q h1
        omega
      have HHH := Lib.hid HH
      have HOU := Lib.hid hOu
      have HXS := Lib.hid hxs
      have HHL := Lib.hid hhl
      clear hcell0 HH hOu hxs hhl
      go_wp2_with fail
      go_region_law (first | (refine step_app (v := u) rfl rfl ei_ints rfl (own_ext HOU.out ((Ext.refl wr).drew.alloc _)) rfl (src_new _ _ _ rfl) (by omega) (by omega) (by simp; omega) ?_; intro v' w' hown hgrew; obtain ⟨vo, vc, rfl⟩ := own_shape hown; obtain ⟨hput, f1, y, c2⟩ := (HHH.out.ext (((Ext.refl wr).alloc (.cells #[.int .i64 x] 3)).drew)).put hu.out HXS.out (by rw [HHL.out, List.map_append]; exact hown) hgrew; have HP := Lib.hid hput; clear hput))
      all_goals
        go_wp2_with fail
        go_roundw
        case rel =>
          have hst := handL_step xs p q r x hr (by rw [← HTQ.out]; exact x1.out)
          have hE : Ext w (w'.setCell ⟨w.heap.size, r, none⟩ (.slice vo (q + 1) vc)) := (hgrew.extNew ((HX.alloc _).drew) (own_ext HOU.out ((Ext.refl wr).alloc _).drew) (by omega)).setCell (by simp) _
          have hS : w.heap.size + 1 ≤ (w'.setCell ⟨w.heap.size, r, none⟩ (.slice vo (q + 1) vc)).heap.size := by have := hgrew.by'.size; simp at this ⊢; omega
          by_cases hrp : r + 1 < p
          · exact ⟨t + 1, q, r + 1, _, by omega, by go_num, by show _ = _; rw [HTQ.out]; omega, hrp, hE, hS, by rw [hst]; exact HP.out⟩
          · have e : r + 1 = p := by omega
            rw [e, handL_turn] at hst
            exact ⟨t + 1, q + 1, 0, _, by omega, by go_num, by show _ = _; rw [HTQ.out, Nat.succ_mul]; omega, by omega, hE, hS, by rw [hst]; exact HP.out⟩
        case measure => simp [intOf]; omega
    · have htn : t = n := by omega
      subst htn
      have hqr : q = k ∧ r = 0 := by
        have e1 := HTQ.out
        rw [← HNK.out] at e1
        have m1 : (p * k) % p = 0 := Nat.mul_mod_right p k
        have m2 : (q * p + r) % p = r := by rw [Nat.mul_comm, Nat.mul_add_mod, Nat.mod_eq_of_lt hr]
        have hr0 : r = 0 := by rw [← m2, ← e1, m1]
        refine ⟨?_, hr0⟩
        rw [hr0, Nat.add_zero, Nat.mul_comm p k] at e1
        exact (Nat.eq_of_mul_eq_mul_right (by omega) e1).symm
      obtain ⟨rfl, rfl⟩ := hqr
      have hrows := HH.rows h2 (fun x hx => by
        obtain ⟨i, hi, rfl⟩ := List.mem_map.1 hx
        simp only [handAt, List.length_map, List.length_range]
        split <;> omega)
      have HRO := Lib.hid hrows
      have hk := HK.out
      rw [HRV.out] at hk
      clear HH hrows
      by_cases hnc : t < c
      · rw [if_pos hnc] at hk
        cases ao with
        | none => have := hnn rfl; omega
        | some ad =>
          simp only [Option.map_some] at hk
          have HK2 := Lib.hid hk
          clear hk hnn
          go_wp2_with fail
          refine (HK2.out _ (by exact HX)).mono ?_
          rintro e w2 ⟨rv2, rfl, hO, hx⟩
          go_wp2_with fail
          go_ret3
          exact ⟨_, _, rfl, HRO.out.ext hx, own_rowOf hO (by simp; omega), HX.trans hx⟩
      · rw [if_neg hnc] at hk
        have HK2 := Lib.hid hk
        have htc : c = t := by omega
        subst htc
        clear hk hnn
        go_wp2_with fail
        refine (HK2.out _ (by exact HX)).mono ?_
        rintro e w2 ⟨rv2, rfl, hO, hx⟩
        go_wp2_with fail
        go_ret3
        exact ⟨_, _, rfl, HRO.out.ext hx, own_rowOf hO (by simp; omega), HX.trans hx⟩
end Go.Proofs.YtllhgkacbpgemaaDoor
