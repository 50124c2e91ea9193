/- walks: slices.IndexFunc, ContainsFunc at other elements; fine; indexFact -/
import Derived.Test.YtllhgkacbpgemaaIdx7
import Derived.Test.YtllhgkacbpgemaaIdxN
namespace Go.Proofs.Ytllhgkacbpgemaa
open Go.RowKit

set_option maxHeartbeats 400000 in
set_option maxRecDepth 100000 in
theorem indexFunc_rows (v : Value) (us : List Value) (ps : List Bool) (g : Nat) (caps : Array Value) (w : World) (hv : Row w v us) (hl : ps.length = us.length)
    (eg : ∀ args w, (callFunc g args).run Try.prog w = .ok (.enter g args) w)
    (hp : ∀ (i : Nat) (u : Value) (q : Bool) (W : World), us[i]? = some u → ps[i]? = some q → Ext w W → Calls Try.prog g (#[u] ++ caps) W fun e W' => e = .returned (.bool q) ∧ Ext W W') :
    Calls Try.prog 20 #[v, .func (.func g) #[] caps] w fun e w' => e = .returned (.int .i64 (idxF id ps 0)) ∧ Ext w w' := by
  obtain ⟨ao, c, rfl, _, hlen, _, hc⟩ := hv
  have HP := Lib.hid hp; have HL := Lib.hid hl; have HC := Lib.hid hc
  clear hp hl hc
  go_enter Try.func20, Try.ntmps20
  go_wp2_with fail
  go_loopw [8] (fun i wr => ∃ k : Nat, k ≤ us.length ∧ i = .int .i64 k ∧ Ext w wr ∧ Hid (idxF id (ps.drop k) k = idxF id ps 0)) (fun i _ => us.length - (intOf i).toNat)
  case atStart => exact ⟨0, Nat.zero_le _, rfl, Ext.refl _, rfl⟩
  case round =>
    obtain ⟨k, hk, rfl, HX, HI⟩ := hrel
    by_cases hlt : k < us.length
    · obtain ⟨x, h1, _, _⟩ := get_lt hlt
      obtain ⟨q, hq1, hq2, _⟩ := get_lt (xs := ps) (k := k) (by rw [HL.out]; exact hlt)
      obtain ⟨b, off, rfl, hc0⟩ := HC.out k x h1.out
      have hcell := HX.cell hc0
      have hcall := HP.out k x q wr h1.out hq1.out HX
      clear hc0
      have HH := Lib.hid hcall; clear hcall
      cases q
      all_goals
        go_wp2_with fail
        refine HH.out.mono ?_
        rintro e w' ⟨rfl, HB⟩
        go_wp2_with fail
      · go_roundw
        case rel => exact ⟨k + 1, by omega, by go_num, HX.trans HB, by rw [← HI.out, hq2.out]; simp [Hid, idxF]⟩
        case measure => simp [intOf]; omega
      · go_ret
        exact ⟨ret_int (by rw [← HI.out, hq2.out]; simp [idxF]), HX.trans HB⟩
    · obtain ⟨h1, _⟩ := get_ge (xs := ps) (k := k) (by rw [HL.out]; exact hlt)
      go_wp2_with fail
      go_ret
      exact ⟨ret_int (by rw [← HI.out, h1.out]; rfl), HX⟩

set_option maxHeartbeats 400000 in
set_option maxRecDepth 100000 in
theorem indexFunc_errs (v : Value) (us : List Value) (ps : List Bool) (g : Nat) (caps : Array Value) (w : World) (hv : Row w v us) (hl : ps.length = us.length)
    (eg : ∀ args w, (callFunc g args).run Try.prog w = .ok (.enter g args) w)
    (hp : ∀ (i : Nat) (u : Value) (q : Bool) (W : World), us[i]? = some u → ps[i]? = some q → Ext w W → Calls Try.prog g (#[u] ++ caps) W fun e W' => e = .returned (.bool q) ∧ Ext W W') :
    Calls Try.prog 87 #[v, .func (.func g) #[] caps] w fun e w' => e = .returned (.int .i64 (idxF id ps 0)) ∧ Ext w w' := by
  obtain ⟨ao, c, rfl, _, hlen, _, hc⟩ := hv
  have HP := Lib.hid hp; have HL := Lib.hid hl; have HC := Lib.hid hc
  clear hp hl hc
  go_enter Try.func87, Try.ntmps87
  go_wp2_with fail
  go_loopw [8] (fun i wr => ∃ k : Nat, k ≤ us.length ∧ i = .int .i64 k ∧ Ext w wr ∧ Hid (idxF id (ps.drop k) k = idxF id ps 0)) (fun i _ => us.length - (intOf i).toNat)
  case atStart => exact ⟨0, Nat.zero_le _, rfl, Ext.refl _, rfl⟩
  case round =>
    obtain ⟨k, hk, rfl, HX, HI⟩ := hrel
    by_cases hlt : k < us.length
    · obtain ⟨x, h1, _, _⟩ := get_lt hlt
      obtain ⟨q, hq1, hq2, _⟩ := get_lt (xs := ps) (k := k) (by rw [HL.out]; exact hlt)
      obtain ⟨b, off, rfl, hc0⟩ := HC.out k x h1.out
      have hcell := HX.cell hc0
      have hcall := HP.out k x q wr h1.out hq1.out HX
      clear hc0
      have HH := Lib.hid hcall; clear hcall
      cases q
      all_goals
        go_wp2_with fail
        refine HH.out.mono ?_
        rintro e w' ⟨rfl, HB⟩
        go_wp2_with fail
      · go_roundw
        case rel => exact ⟨k + 1, by omega, by go_num, HX.trans HB, by rw [← HI.out, hq2.out]; simp [Hid, idxF]⟩
        case measure => simp [intOf]; omega
      · go_ret
        exact ⟨ret_int (by rw [← HI.out, hq2.out]; simp [idxF]), HX.trans HB⟩
    · obtain ⟨h1, _⟩ := get_ge (xs := ps) (k := k) (by rw [HL.out]; exact hlt)
      go_wp2_with fail
      go_ret
      exact ⟨ret_int (by rw [← HI.out, h1.out]; rfl), HX⟩

set_option maxHeartbeats 400000 in
set_option maxRecDepth 100000 in
theorem containsFunc_errs (v : Value) (us : List Value) (ps : List Bool) (g : Nat) (caps : Array Value) (w : World) (hv : Row w v us) (hl : ps.length = us.length)
    (eg : ∀ args w, (callFunc g args).run Try.prog w = .ok (.enter g args) w)
    (hp : ∀ (i : Nat) (u : Value) (q : Bool) (W : World), us[i]? = some u → ps[i]? = some q → Ext w W → Calls Try.prog g (#[u] ++ caps) W fun e W' => e = .returned (.bool q) ∧ Ext W W')
    (q : Bool) (hq : Hid (ps.any id = q)) :
    Calls Try.prog 73 #[v, .func (.func g) #[] caps] w fun e w' => e = .returned (.bool q) ∧ Ext w w' := by
  obtain ⟨i, hi⟩ : ∃ i, Hid (idxF id ps 0 = i) := ⟨_, rfl⟩
  have hge := idxF_ge id ps 0 (Int.le_refl _)
  rw [hi.out, hq.out] at hge
  have HC := indexFunc_errs v us ps g caps w hv hl eg hp
  rw [hi.out] at HC
  have hge2 := Lib.hid hge; clear hge
  have HD := Lib.hid HC; clear HC hp hl
  go_enter Try.func73, Try.ntmps73
  go_wp2_with fail
  refine HD.out.mono ?_
  rintro e w' ⟨rfl, hx⟩
  go_wp2_with fail
  go_ret
  exact ⟨ret_bool (by have := hge2.out; cases q <;> simp at this <;> simp <;> omega), hx⟩

set_option maxHeartbeats 400000 in
theorem fine1_any (x : Int) (W : World) : Calls Try.prog 74 #[.int .i64 x] W fun e W' => e = .returned (.bool (x != 0)) ∧ Ext W W' := by
  go_enter Try.func74, Try.ntmps74
  go_wp2_with fail
  go_ret
  exact ⟨rfl, Ext.refl _⟩

set_option maxHeartbeats 400000 in
theorem fine_any (v : Value) (es : List Int) (w : World) (hv : Ints w v es) (q : Bool) (hq : Hid (es.any (· != 0) = !q)) :
    Calls Try.prog 47 #[v] w fun e w' => e = .returned (.bool q) ∧ Ext w w' := by
  have HD := Lib.hid (containsFunc_errs v (es.map (Value.int .i64)) (es.map (· != 0)) 74 #[] w hv (by simp) (fun _ _ => by kernel_rfl)
    (fun i u q W h1 h2 hx => by
      simp only [List.getElem?_map, Option.map_eq_some_iff] at h1 h2
      obtain ⟨x, h3, rfl⟩ := h1
      obtain ⟨y, h4, rfl⟩ := h2
      rw [h3] at h4
      obtain rfl := Option.some.inj h4
      exact fine1_any x W) (!q) (by show _ = _; rw [List.any_map]; exact hq.out))
  clear hv
  cases q
  all_goals
    go_enter Try.func47, Try.ntmps47
    go_wp2_with fail
    refine HD.out.mono ?_
    rintro e w' ⟨rfl, hx⟩
    go_wp2_with fail
    go_ret
    exact ⟨rfl, hx⟩

/-- a slice literal reads -/
theorem lit_ints (w : World) (e : TypeId) (xs : List Int) (h : xs.length ≤ 17592186044416) :
    Ints (w.alloc (.cells (xs.map (Value.int .i64)).toArray e)) (.slice (some ⟨w.heap.size, 0, none⟩) xs.length xs.length) xs := by
  have := World.ownsRow_lit (base := w.heap.size) (e := e) (size := 1) w (xs.map (Value.int .i64)).toArray xs.length (Nat.le_refl _) (by unfold maxLen; omega) (by simp)
  exact own_rowOf this h


theorem lit_ints_at (w : World) (e : TypeId) (xs : List Int) (h : xs.length ≤ 17592186044416) (k : Nat) (hk : k = w.heap.size) :
    Ints (w.alloc (.cells (xs.map (Value.int .i64)).toArray e)) (.slice (some ⟨k, 0, none⟩) xs.length xs.length) xs := by
  subst hk; exact lit_ints w e xs h

theorem nats_lit {w : World} {v : Value} {ns : List Nat} {xs : List Int} (h : Ints w v xs) (e : xs = ofN ns) : Nats w v ns := nats_of (e ▸ h)

set_option maxHeartbeats 2000000 in
set_option maxRecDepth 100000 in
theorem indexFact_any (w : World) : Calls Try.prog 10 #[] w fun e w' => e = .returned (.bool true) ∧ Ext w w' := by
  have L0 : Ints (w.alloc (.cells #[.int .i64 2, .int .i64 1, .int .i64 0, .int .i64 0, .int .i64 0, .int .i64 0, .int .i64 0] 3)) (.slice (some ⟨w.heap.size, 0, none⟩) 7 7) [2, 1, 0, 0, 0, 0, 0] := lit_ints w 3 [2, 1, 0, 0, 0, 0, 0] (by decide)
  have X0 := (Ext.refl w).alloc (.cells #[.int .i64 2, .int .i64 1, .int .i64 0, .int .i64 0, .int .i64 0, .int .i64 0, .int .i64 0] 3)
  obtain ⟨w0, hw0⟩ : ∃ w0, Hid (w.alloc (.cells #[.int .i64 2, .int .i64 1, .int .i64 0, .int .i64 0, .int .i64 0, .int .i64 0, .int .i64 0] 3) = w0) := ⟨_, rfl⟩
  rw [hw0.out] at L0 X0
  have HC := fun v W h => Count_any v [2, 1, 0, 0, 0, 0, 0] W h
  rw [show countV [2, 1, 0, 0, 0, 0, 0] = 3 from by decide, show countsErr [2, 1, 0, 0, 0, 0, 0] = 0 from by decide] at HC
  have HCo := Lib.hid HC
  have HRk := fun v W h => Rank_ok v [0, 1, 0] W h (by unfold Fit; decide)
  rw [show rankF (cntN 7 [0, 1, 0]) [0, 1, 0] = 1 from by decide] at HRk
  have HRa := Lib.hid HRk
  have HUn := fun v W h => Unrank_ok v [2, 1, 0, 0, 0, 0, 0] 1 W h (by unfold FitC; decide) (by decide)
  rw [show unrF (List.sum [2, 1, 0, 0, 0, 0, 0]) [2, 1, 0, 0, 0, 0, 0] 1 = [0, 1, 0] from by decide] at HUn
  have HUr := Lib.hid HUn
  have HCh := fun v W h => check_any v [7] W h
  rw [show cellsErr [7] = 4 from by decide] at HCh
  have HCk := Lib.hid HCh
  have HCc := fun v W h => checkCounts_any v [] W h
  rw [show countsErr [] = 3 from by decide] at HCc
  have HCt := Lib.hid HCc
  clear HC HRk HUn HCh HCc
  go_enter Try.func10, Try.ntmps10
  go_wp2_with fail
  rw [hw0.out]
  refine (Counts_ok _ [0, 1, 0] _ (by exact lit_ints_at w0 _ [0, 1, 0] (by decide) _ (by rw [← hw0.out]; simp)) (by decide)).mono ?_
  rintro e w1 ⟨u1, rfl, hu1, hx1⟩
  have X1 := X0.trans (((Ext.refl w0).alloc _).trans hx1)
  have L1 := L0.ext (((Ext.refl w0).alloc _).trans hx1)
  rw [show cnts [0, 1, 0] = [2, 1, 0, 0, 0, 0, 0] from by decide] at hu1
  clear hx1
  go_wp2_with fail
  refine (HCo.out _ _ (by exact L1)).mono ?_
  rintro e w2 ⟨rfl, hx2⟩
  have X2 := X1.trans hx2
  have L2 := L1.ext hx2
  have hu2 := hu1.ext hx2
  clear hx2 L1 hu1 X1
  go_wp2_with fail
  refine (HRa.out _ _ (by exact nats_lit (lit_ints w2 _ [0, 1, 0] (by decide)) rfl)).mono ?_
  rintro e w3 ⟨rfl, hx3⟩
  have hx3' := ((Ext.refl w2).alloc _).trans hx3
  have X3 := X2.trans hx3'
  have L3 := L2.ext hx3'
  have hu3 := hu2.ext hx3'
  clear hx3 hx3' L2 hu2 X2
  go_wp2_with fail
  refine (HUr.out _ _ (by exact nats_lit L3 rfl)).mono ?_
  rintro e w4 ⟨u4, rfl, hr4, hx4⟩
  have X4 := X3.trans hx4
  have L4 := L3.ext hx4
  have hu4 := hu3.ext hx4
  clear hx4 L3 hu3 X3
  go_wp2_with fail
  refine (Next_ok _ [0, 0, 1] _ (by exact lit_ints w4 _ [0, 0, 1] (by decide)) (by decide) (by decide)).mono ?_
  rintro e w5 ⟨hN, hx5⟩
  rcases hN with ⟨_, hbad⟩ | ⟨u5, ys, rfl, hy, hnp⟩
  · exact absurd hbad (by decide)
  obtain ⟨ms, rfl, hms, hrk⟩ := nextP_rank [0, 0, 1] (by decide) ys hnp
  have hms2 : ms = [0, 1, 0] := rankF_inj hms (show Has (cntN 7 [0, 0, 1]) [0, 1, 0] from has_cnt 7 [0, 1, 0] (by decide)) (by rw [hrk]; decide)
  subst hms2
  have hx5' := ((Ext.refl w4).alloc _).trans hx5
  have X5 := X4.trans hx5'
  have L5 := L4.ext hx5'
  have hu5 := hu4.ext hx5'
  have hr5 := ints_ofN (hr4.ext hx5')
  clear hx5 hx5' L4 hu4 X4 hr4 hnp hms hrk
  go_wp2_with fail
  refine (fine_any _ [0, 0, 0, 0, 0] _ (by exact lit_ints w5 _ [0, 0, 0, 0, 0] (by decide)) true rfl).mono ?_
  rintro e w6 ⟨rfl, hx6⟩
  have hx6' := ((Ext.refl w5).alloc _).trans hx6
  go_wp2_with fail
  refine (equal_ints _ _ _ _ _ (hu5.ext hx6') (L5.ext hx6') true rfl).mono ?_
  rintro e w7 ⟨rfl, hx7⟩
  have hx7' := hx6'.trans hx7
  go_wp2_with fail
  refine (equal_ints _ _ _ [0, 1, 0] _ (hr5.ext (hx7'.trans ((Ext.refl w7).alloc _))) (by exact lit_ints w7 _ [0, 1, 0] (by decide)) true rfl).mono ?_
  rintro e w8 ⟨rfl, hx8⟩
  have hx8' := (hx7'.trans ((Ext.refl w7).alloc _)).trans hx8
  go_wp2_with fail
  refine (equal_ints _ _ _ _ _ (hy.ext hx8') (hr5.ext hx8') true rfl).mono ?_
  rintro e w9 ⟨rfl, hx9⟩
  have hx9' := hx8'.trans hx9
  go_wp2_with fail
  refine (HCk.out _ _ (by exact lit_ints w9 _ [7] (by decide))).mono ?_
  rintro e w10 ⟨rfl, hx10⟩
  go_wp2_with fail
  refine (HCt.out _ _ (by exact Row.nil _)).mono ?_
  rintro e w11 ⟨rfl, hx11⟩
  go_wp2_with fail
  go_ret
  exact ⟨rfl, X5.trans (hx9'.trans ((((Ext.refl w9).alloc _).trans hx10).trans hx11))⟩
end Go.Proofs.Ytllhgkacbpgemaa
