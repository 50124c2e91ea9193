/- walks: slices.Reverse over ints of the call's own; index.Next -/
import Derived.Test.YtllhgkacbpgemaaIdx3
import Derived.RegionTactic
import Derived.ChangeAlike
namespace Go.Proofs.Ytllhgkacbpgemaa
open Go.RowKit

/-- t places from both ends are exchanged -/
def RevAt (X Y : List Int) (t : Nat) : Prop :=
  Y.length = X.length ∧ ∀ i, i < X.length → (((i < t ∨ X.length ≤ i + t) → Y[i]? = X[X.length - 1 - i]?) ∧ (t ≤ i → i + t < X.length → Y[i]? = X[i]?))

theorem RevAt.start (X : List Int) : RevAt X X 0 := ⟨rfl, fun i hi => ⟨fun h => by omega, fun _ _ => rfl⟩⟩

theorem RevAt.step {X Y : List Int} {t : Nat} (h : RevAt X Y t) (ht : t + t + 1 < X.length) {x y : Int} (hx : Hid (Y[t]? = some x)) (hy : Hid (Y[X.length - 1 - t]? = some y)) :
    RevAt X ((Y.set t y).set (X.length - 1 - t) x) (t + 1) := by
  obtain ⟨h1, h2⟩ := h
  refine ⟨by simp [h1], fun i hi => ⟨fun hc => ?_, fun hc1 hc2 => ?_⟩⟩
  · simp only [List.getElem?_set, List.length_set, h1]
    by_cases e1 : X.length - 1 - t = i
    · rw [if_pos e1, if_pos (by omega)]
      have := (h2 t (by omega)).2 (by omega) (by omega)
      rw [hx.out] at this
      rw [this]; congr 1; omega
    · rw [if_neg e1]
      by_cases e2 : t = i
      · rw [if_pos e2, if_pos (by omega)]
        have := (h2 (X.length - 1 - t) (by omega)).2 (by omega) (by omega)
        rw [hy.out] at this
        rw [this]; congr 1; omega
      · rw [if_neg e2]
        exact (h2 i hi).1 (by omega)
  · simp only [List.getElem?_set]
    rw [if_neg (by omega), if_neg (by omega)]
    exact (h2 i hi).2 (by omega) (by omega)

theorem RevAt.done {X Y : List Int} {t : Nat} (h : RevAt X Y t) (ht : X.length ≤ t + t + 1) : Y = X.reverse := by
  apply List.ext_getElem?
  intro i
  by_cases hi : i < X.length
  · rw [List.getElem?_reverse hi]
    by_cases h0 : i < t ∨ X.length ≤ i + t
    · exact (h.2 i hi).1 h0
    · have := (h.2 i hi).2 (by omega) (by omega)
      rw [this]; congr 1; omega
  · rw [List.getElem?_eq_none (by rw [h.1]; omega), List.getElem?_eq_none (by simp; omega)]

theorem grownBy_trans {a b c : World} {r : Option Nat} (h : a.grownBy b r) (k : b.grownBy c r) : a.grownBy c r :=
  ⟨k.os.trans h.os, k.tape.trans h.tape, k.output.trans h.output, Nat.le_trans h.size k.size, fun i hi hn => (k.block i (Nat.lt_of_lt_of_le hi h.size) hn).trans (h.block i hi hn)⟩

theorem grownBy_drew {a b : World} {r : Option Nat} (h : a.grownBy b r) : a.grownBy b.drew r := ⟨h.os, h.tape, h.output, h.size, h.block⟩

theorem own_drewN {w : World} {B : Nat} {e : TypeId} {sz : Nat} {v : Value} {n : Nat} {vs : List Value} (h : w.ownsRow B e sz v n vs) (k : Nat) : (w.drewN k).ownsRow B e sz v n vs := h

set_option maxHeartbeats 1000000 in
set_option maxRecDepth 100000 in
theorem reverse_own (B g N cap c m n : Nat) (A : List Value) (X : List Int) (w : World) (hm : Hid (A.length = m)) (hn : Hid (X.length = n)) (hw : w.ownsRow B 3 1 (.slice (some ⟨g, 0, none⟩) N cap) N (A ++ X.map (Value.int .i64))) (hN : N ≤ 17592186044416) :
    Calls Try.prog 54 #[.slice (some ⟨g, m, none⟩) n c] w fun e w' => e = .returned (.tuple #[]) ∧
      w'.ownsRow B 3 1 (.slice (some ⟨g, 0, none⟩) N cap) N (A ++ X.reverse.map (Value.int .i64)) ∧ w.grownBy w' (some g) := by
  have hNl : A.length + X.length = N := by have := hw.1; simpa using this
  have hAl : A.length ≤ 17592186044416 := by omega
  have hXl : X.length ≤ 17592186044416 := by omega
  have HN := Lib.hid hNl; clear hNl
  rw [hm.out] at hAl
  rw [hn.out] at hXl
  by_cases hn0 : n = 0
  · subst hn0
    have hX : X = [] := List.eq_nil_of_length_eq_zero hn.out
    subst hX
    go_enter Try.func54, Try.ntmps54
    go_wp2_with fail
    go_loopw [2, 3] (fun i j wr => i = .int .i64 0 ∧ j = .int .i64 (-1) ∧ wr = w) (fun i _ _ => 0)
    case atStart => exact ⟨rfl, rfl, rfl⟩
    case round =>
      obtain ⟨rfl, rfl, rfl⟩ := hrel
      go_wp2_with fail
      go_end0
      exact ⟨rfl, hw, ⟨rfl, rfl, rfl, Nat.le_refl _, fun _ _ _ => rfl⟩⟩
  go_enter Try.func54, Try.ntmps54
  go_wp2_with fail
  go_loopw [2, 3] (fun i j wr => ∃ t r : Nat, t + r + 1 = n ∧ t ≤ r + 1 ∧ i = .int .i64 t ∧ j = .int .i64 r ∧ (∃ Y, RevAt X Y t ∧ wr.ownsRow B 3 1 (.slice (some ⟨g, 0, none⟩) N cap) N (A ++ Y.map (Value.int .i64))) ∧ w.grownBy wr (some g)) (fun i _ _ => n - (intOf i).toNat)
  case atStart => exact ⟨0, n - 1, by omega, by omega, rfl, by rw [show ((n : Int) - 1) = ((n - 1 : Nat) : Int) from by omega], ⟨X, RevAt.start X, hw⟩, ⟨rfl, rfl, rfl, Nat.le_refl _, fun _ _ _ => rfl⟩⟩
  case round =>
    obtain ⟨t, r, htr, htr2, rfl, rfl, ⟨Y, hY, hO⟩, hG⟩ := hrel
    have htn : t ≤ n := by omega
    have hrn : r < n := by omega
    have HTR := Lib.hid htr; clear htr
    by_cases hlt : t < r
    · have ht1 : t < n := by omega
      have hXn := hn.out
      have hXr : X.length - 1 - t = r := by have := HTR.out; omega
      obtain ⟨x, hx⟩ : ∃ x, Hid (Y[t]? = some x) := ⟨Y[t]'(by rw [hY.1]; have := HTR.out; omega), List.getElem?_eq_getElem _⟩
      obtain ⟨y, hy⟩ : ∃ y, Hid (Y[X.length - 1 - t]? = some y) := ⟨Y[X.length - 1 - t]'(by rw [hY.1]; omega), List.getElem?_eq_getElem _⟩
      have hst := hY.step (by omega) hx hy
      rw [hXr] at hy hst
      have hAm := hm.out
      have c1 := own_cell hO (j := m + t) (x := .int .i64 x) (by simp [Hid, ← hAm, List.getElem?_append_right, hx.out])
      have c2 := own_cell hO (j := m + r) (x := .int .i64 y) (by simp [Hid, ← hAm, List.getElem?_append_right, hy.out])
      have f1 := hO.frozenAt (m + t)
      have f2 := hO.frozenAt (m + r)
      have s1 := hO.stored (m + t) (.int .i64 y)
      have s2 := s1.1.stored (m + r) (.int .i64 x)
      have hset : ((A ++ Y.map (Value.int .i64)).set (m + t) (.int .i64 y)).set (m + r) (.int .i64 x) = A ++ ((Y.set t y).set r x).map (Value.int .i64) := by
        rw [← hAm, List.set_append_right _ _ (by omega), List.set_append_right _ _ (by omega)]
        simp [List.map_set]
      rw [hset] at s2
      have H1 := Lib.hid s1.2; have H2 := Lib.hid s2
      have HS := Lib.hid hst
      clear s1 s2 hXn hAm hset hXr hst
      go_wp2_with fail
      go_region
      all_goals go_wp2_with fail
      go_roundw
      case rel => exact ⟨t + 1, r - 1, by have := HTR.out; omega, by omega, by go_num, by rw [show ((r : Int) - 1) = ((r - 1 : Nat) : Int) from by omega], ⟨_, HS.out, H2.out.1⟩, grownBy_drew (grownBy_trans hG (grownBy_trans H1.out H2.out.2))⟩
      case measure => simp [intOf]; omega
    · have hY2 := hY.done (by have := HTR.out; have := hn.out; omega)
      go_wp2_with fail
      go_end0
      exact ⟨rfl, by rw [← hY2]; exact hO, hG⟩

/-! ### Next -/
/-- the next placement: the rightmost place with a greater one behind it gets the least greater one, what is behind is turned -/
def NextP (xs ys : List Int) : Prop :=
  ∃ ps c cs k d, xs = ps ++ c :: cs ∧ cs.Pairwise (· ≥ ·) ∧ cs[k]? = some d ∧ c < d ∧ (∀ t e, k < t → cs[t]? = some e → e ≤ c) ∧ ys = ps ++ d :: (cs.set k c).reverse

set_option maxHeartbeats 1000000 in
set_option maxRecDepth 100000 in
theorem Next_err (v : Value) (xs : List Int) (w : World) (hv : Ints w v xs) (h : cellsErr xs ≠ 0) :
    Calls Try.prog 19 #[v] w fun e w' => e = .returned (.tuple #[.slice none 0 0, .int .i64 (cellsErr xs)]) ∧ Ext w w' := by
  have HD := Lib.hid (check_any v xs w hv)
  have h2 : (cellsErr xs != 0) = true := by simp [h]
  clear hv h
  generalize cellsErr xs = q at *
  go_enter Try.func19, Try.ntmps19
  go_wp2_with fail
  refine HD.out.mono ?_
  rintro e w' ⟨rfl, hx⟩
  go_wp2_with fail
  go_ret2
  exact ⟨rfl, hx⟩

set_option maxHeartbeats 1000000 in
set_option maxRecDepth 100000 in
theorem Next_nil (v : Value) (w : World) (hv : Ints w v []) :
    Calls Try.prog 19 #[v] w fun e w' => e = .returned (.tuple #[.slice none 0 0, .int .i64 8]) ∧ Ext w w' := by
  have HD := Lib.hid (check_any v [] w hv)
  have HK := Lib.hid (fun W => @clone_ints v [] W)
  have HV := Lib.hid hv
  clear hv
  go_enter Try.func19, Try.ntmps19
  go_wp2_with fail
  refine HD.out.mono ?_
  rintro e w' ⟨rfl, hx⟩
  go_wp2_with fail
  refine (HK.out _ (HV.out.ext hx)).mono ?_
  rintro e w'' ⟨u, rfl, hu, hx2⟩
  obtain ⟨ao, c, rfl, _, _⟩ := (own_rowOf (enc := Value.int .i64) (xs := []) hu (by decide)).open
  go_wp2_with fail
  go_loopw [6] (fun i wr => i = .int .i64 (-2) ∧ Ext w wr) (fun _ _ => 0)
  case atStart => exact ⟨rfl, hx.trans hx2⟩
  case round =>
    obtain ⟨rfl, HX⟩ := hrel
    go_wp2_with fail
    go_quiet (fail)
    go_wp2_with fail
    go_ret2
    exact ⟨rfl, HX.drewN _⟩

theorem swap_eq (xs : List Int) (t k : Nat) (a y : Int) (htk : t < k) (hk : k < xs.length) : (xs.set t y).set k a = (xs.take t ++ [y]) ++ (xs.drop (t + 1)).set (k - (t + 1)) a := by
  have h1 : xs = xs.take t ++ xs[t] :: xs.drop (t + 1) := by
    rw [← List.drop_eq_getElem_cons (by omega), List.take_append_drop]
  have hl : (xs.take t).length = t := by simp; omega
  conv => lhs; rw [h1]
  rw [List.set_append_right _ _ (by omega), hl, Nat.sub_self, List.set_cons_zero]
  have h2 : List.take t xs ++ y :: List.drop (t + 1) xs = (List.take t xs ++ [y]) ++ List.drop (t + 1) xs := by simp
  rw [h2, List.set_append_right _ _ (by simp; omega)]
  congr 2
  simp; omega

set_option maxHeartbeats 2000000 in
set_option maxRecDepth 100000 in
theorem Next_ok (v : Value) (xs : List Int) (w : World) (hv : Ints w v xs) (h : cellsErr xs = 0) (hne : xs ≠ []) :
    Calls Try.prog 19 #[v] w fun e w' => ((e = .returned (.tuple #[.slice none 0 0, .int .i64 8]) ∧ xs.Pairwise (· ≥ ·)) ∨
      (∃ u ys, e = .returned (.tuple #[u, .int .i64 0]) ∧ Ints w' u ys ∧ NextP xs ys)) ∧ Ext w w' := by
  have HD := check_any v xs w hv
  rw [h] at HD
  have HD := Lib.hid HD
  have HK := Lib.hid (fun W => @clone_ints v xs W)
  have HV := Lib.hid hv
  have hl16 := (cellsErr_zero h).2
  have hlpos : 0 < xs.length := by cases xs with
    | nil => exact absurd rfl hne
    | cons x xs => simp
  obtain ⟨n, hn⟩ : ∃ n, Hid (xs.length = n) := ⟨_, rfl⟩
  rw [hn.out] at hl16 hlpos
  clear hv h hne
  go_enter Try.func19, Try.ntmps19
  go_wp2_with fail
  refine HD.out.mono ?_
  rintro e w1 ⟨rfl, hx⟩
  go_wp2_with fail
  refine (HK.out _ (HV.out.ext hx)).mono ?_
  rintro e w2 ⟨u, rfl, hu, hx2⟩
  rw [hn.out] at hu
  obtain ⟨g, cap, rfl, hg1, hg2⟩ := own_open hu hlpos
  have hcap : n ≤ cap := by
    rcases hu.2 with ⟨h1, _⟩ | ⟨g', cap', cur, h1, _, _, h2, _⟩
    · cases h1
    · simp at h1; omega
  have hgw : w.heap.size ≤ g := Nat.le_trans hx.size hg1
  have HU := own_mono hu hx.size
  clear hu hg1
  go_wp2_with fail
  go_loopw [6] (fun i wr => ∃ i' : Int, i = .int .i64 i' ∧ -1 ≤ i' ∧ i' + 2 ≤ n ∧ Ext w wr ∧ wr.ownsRow w.heap.size 3 1 (.slice (some ⟨g, 0, none⟩) n cap) n (xs.map (Value.int .i64)) ∧ Hid ((xs.drop (i' + 1).toNat).Pairwise (· ≥ ·))) (fun i _ => (intOf i + 1).toNat)
  case atStart =>
    refine ⟨_, rfl, by omega, by omega, hx.trans hx2, HU, ?_⟩
    have h1 : ((n : Int) - 2 + 1).toNat = n - 1 := by omega
    have h2 : xs.drop (n - 1) = [xs[n - 1]'(by have := hn.out; omega)] := by
      have := hn.out
      rw [List.drop_eq_getElem_cons (by omega)]
      congr 1
      exact List.drop_eq_nil_of_le (by omega)
    rw [h1, h2]
    exact List.pairwise_singleton _ _
  case round =>
    obtain ⟨i', rfl, hi1, hi2, HX, HO, HP⟩ := hrel
    by_cases hi : i' = -1
    · subst hi
      clear hi1 hi2
      go_wp2_with fail
      go_quiet (fail)
      go_wp2_with fail
      go_ret2
      exact ⟨.inl ⟨rfl, HP.out⟩, HX.drewN _⟩
    · obtain ⟨t, rfl⟩ := Int.eq_ofNat_of_zero_le (show 0 ≤ i' by omega)
      have htn : t + 1 < n := by omega
      have htn0 : t < n := by omega
      clear hi hi1 hi2
      obtain ⟨a, ha, ha2, _⟩ := get_lt (xs := xs) (k := t) (by have := hn.out; omega)
      obtain ⟨b, hb, hb2, _⟩ := get_lt (xs := xs) (k := t + 1) (by have := hn.out; omega)
      have c1 := own_cell HO (j := t) (x := .int .i64 a) (by simp [Hid, ha.out])
      have c2 := own_cell HO (j := t + 1) (x := .int .i64 b) (by simp [Hid, hb.out])
      by_cases hab : b ≤ a
      · have hd : decide (b ≤ a) = true := by simp [hab]
        go_wp2_with fail
        go_quiet (fail)
        go_wp2_with fail
        go_roundw
        case rel =>
          refine ⟨(t : Int) - 1, rfl, by omega, by omega, HX.drewN _, own_drewN HO _, ?_⟩
          have e1 : ((t : Int) - 1 + 1).toNat = t := by omega
          have e2 : ((t : Int) + 1).toNat = t + 1 := by omega
          have h3 := HP.out
          rw [e2] at h3
          rw [e1, ha2.out]
          refine List.pairwise_cons.2 ⟨fun y hy => ?_, h3⟩
          rw [hb2.out] at hy h3
          rcases List.mem_cons.1 hy with e | hy
          · omega
          · have := (List.pairwise_cons.1 h3).1 y hy; omega
        case measure => simp [intOf]
      · have hd : decide (b ≤ a) = false := by simp; omega
        have hab2 : a < b := by omega
        clear hab
        go_wp2_with fail
        go_quiet (fail)
        go_wp2_with fail
        go_loopw [7] (fun kk wk => ∃ k : Nat, kk = .int .i64 k ∧ t < k ∧ k < n ∧ Ext w wk ∧ wk.ownsRow w.heap.size 3 1 (.slice (some ⟨g, 0, none⟩) n cap) n (xs.map (Value.int .i64)) ∧ Hid (∀ s e, k < s → xs[s]? = some e → e ≤ a)) (fun kk _ => (intOf kk).toNat)
        case atStart =>
          refine ⟨n - 1, by rw [show ((n : Int) - 1) = ((n - 1 : Nat) : Int) from by omega], by omega, by omega, HX.drewN _, own_drewN HO _, fun s e hs he => ?_⟩
          have := (List.getElem?_eq_some_iff.1 he).1
          have := hn.out
          omega
        case round =>
          rename_i wr0
          obtain ⟨k, rfl, htk, hkn, HX3, HO3, HG⟩ := hrel
          obtain ⟨y, hy, hy2, _⟩ := get_lt (xs := xs) (k := k) (by have := hn.out; omega)
          have d1 := own_cell HO3 (j := t) (x := .int .i64 a) (by simp [Hid, ha.out])
          have d2 := own_cell HO3 (j := k) (x := .int .i64 y) (by simp [Hid, hy.out])
          by_cases hya : y ≤ a
          · have hd2 : decide (y ≤ a) = true := by simp [hya]
            have hk1 : t + 1 < k := by
              rcases Nat.lt_or_ge (t + 1) k with h1 | h1
              · exact h1
              · have : k = t + 1 := by omega
                subst this
                have h2 := hy.out
                rw [hb.out] at h2
                have := Option.some.inj h2
                omega
            go_wp2_with fail
            go_quiet (fail)
            go_wp2_with fail
            go_roundw
            case rel =>
              refine ⟨k - 1, by rw [show ((k : Int) - 1) = ((k - 1 : Nat) : Int) from by omega], by omega, by omega, HX3.drewN _, own_drewN HO3 _, fun s e hs he => ?_⟩
              by_cases e1 : s = k
              · subst e1
                rw [hy.out] at he
                have := Option.some.inj he
                omega
              · exact HG.out s e (by omega) he
            case measure => simp [intOf]; omega
          · have hd2 : decide (y ≤ a) = false := by simp; omega
            have hya2 : a < y := by omega
            clear hya
            have f1 := HO3.frozenAt t
            have f2 := HO3.frozenAt k
            have s1 := HO3.stored t (.int .i64 y)
            have s2 := s1.1.stored k (.int .i64 a)
            have hset : ((xs.map (Value.int .i64)).set t (.int .i64 y)).set k (.int .i64 a) = (xs.take t ++ [y]).map (Value.int .i64) ++ ((xs.drop (t + 1)).set (k - (t + 1)) a).map (Value.int .i64) := by
              rw [← List.map_append, ← swap_eq xs t k a y htk (by have := hn.out; omega), List.map_set, List.map_set]
            rw [hset] at s2
            have H1 := Lib.hid s1.2; have H2 := Lib.hid s2
            clear s1 s2 hset
            have htc : t + 1 < cap := by omega
            go_wp2_with fail
            go_quiet (fail)
            go_wp2_with fail
            go_region
            all_goals go_wp2_with fail
            refine (reverse_own w.heap.size g n cap (cap - (t + 1)) (t + 1) (n - (t + 1)) ((xs.take t ++ [y]).map (Value.int .i64)) ((xs.drop (t + 1)).set (k - (t + 1)) a) _ (by show _ = _; have := hn.out; simp; omega) (by show _ = _; have := hn.out; simp; omega) (by exact H2.out.1) (by omega)).mono ?_
            rintro e w' ⟨rfl, hO4, hG4⟩
            go_wp2_with fail
            go_ret2
            refine ⟨.inr ⟨_, _, rfl, own_rowOf (xs := (xs.take t ++ [y]) ++ ((xs.drop (t + 1)).set (k - (t + 1)) a).reverse) (by rw [List.map_append]; exact hO4) (by omega), ?_⟩, Ext.grown (((HX3.drewN _).setCell hgw _).setCell hgw _) hG4 hgw⟩
            refine ⟨xs.take t, a, xs.drop (t + 1), k - (t + 1), y, ?_, ?_, ?_, hya2, ?_, by simp⟩
            · rw [← ha2.out, List.take_append_drop]
            · have h3 := HP.out
              rw [show ((t : Int) + 1).toNat = t + 1 from by omega] at h3
              exact h3
            · rw [List.getElem?_drop, show t + 1 + (k - (t + 1)) = k from by omega]; exact hy.out
            · intro s e hs he
              rw [List.getElem?_drop] at he
              exact HG.out (t + 1 + s) e (by omega) he
end Go.Proofs.Ytllhgkacbpgemaa
