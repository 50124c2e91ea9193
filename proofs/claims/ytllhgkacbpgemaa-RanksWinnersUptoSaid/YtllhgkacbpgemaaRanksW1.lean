/- walks of RanksWinners: slices.ContainsFunc at rows of ints; the closure -/
import Derived.Test.YtllhgkacbpgemaaRanksWL
import Derived.Test.YtllhgkacbpgemaaRanksF
namespace Go.Proofs.Ytllhgkacbpgemaa
open Go.RowKit
set_option linter.unusedVariables false

set_option maxHeartbeats 400000 in
set_option maxRecDepth 100000 in
theorem indexFunc_rows (v : Value) (us : List Value) (ps : List Bool) (g : Nat) (caps : Array Value) (w : World) (hv : Row w v us) (hl : ps.length = us.length)
    (eg : ∀ args w, (callFunc g args).run Try.prog w = .ok (.enter g args) w)
    (hp : ∀ (i : Nat) (u : Value) (q : Bool) (W : World), us[i]? = some u → ps[i]? = some q → Ext w W → Calls Try.prog g (#[u] ++ caps) W fun e W' => e = .returned (.bool q) ∧ Ext W W') :
    Calls Try.prog 20 #[v, .func (.func g) #[] caps] w fun e w' => e = .returned (.int .i64 (idxF id ps 0)) ∧ Ext w w' := by
  obtain ⟨ao, c, rfl, _, hlen, _, hc⟩ := hv
  have HP := Lib.hid hp; have HL := Lib.hid hl; have HC := Lib.hid hc
  clear hp hl hc
  go_enter Try.func20, Try.ntmps20
  go_wp2_with fail
  go_loopw [8] (fun i wr => ∃ k : Nat, k ≤ us.length ∧ i = .int .i64 k ∧ Ext w wr ∧ Hid (idxF id (ps.drop k) k = idxF id ps 0)) (fun i _ => us.length - (intOf i).toNat)
  case atStart => exact ⟨0, Nat.zero_le _, rfl, Ext.refl _, rfl⟩
  case round =>
    obtain ⟨k, hk, rfl, HX, HI⟩ := hrel
    by_cases hlt : k < us.length
    · obtain ⟨x, h1, _, _⟩ := get_lt hlt
      obtain ⟨q, hq1, hq2, _⟩ := get_lt (xs := ps) (k := k) (by rw [HL.out]; exact hlt)
      obtain ⟨b, off, rfl, hc0⟩ := HC.out k x h1.out
      have hcell := HX.cell hc0
      have hcall := HP.out k x q wr h1.out hq1.out HX
      clear hc0
      have HH := Lib.hid hcall; clear hcall
      cases q
      all_goals
        go_wp2_with fail
        refine HH.out.mono ?_
        rintro e w' ⟨rfl, HB⟩
        go_wp2_with fail
      · go_roundw
        case rel => exact ⟨k + 1, by omega, by go_num, HX.trans HB, by rw [← HI.out, hq2.out]; simp [Hid, idxF]⟩
        case measure => simp [intOf]; omega
      · go_ret
        exact ⟨ret_int (by rw [← HI.out, hq2.out]; simp [idxF]), HX.trans HB⟩
    · obtain ⟨h1, _⟩ := get_ge (xs := ps) (k := k) (by rw [HL.out]; exact hlt)
      go_wp2_with fail
      go_ret
      exact ⟨ret_int (by rw [← HI.out, h1.out]; rfl), HX⟩

set_option maxHeartbeats 400000 in
set_option maxRecDepth 100000 in
theorem containsFunc_rows (v : Value) (us : List Value) (ps : List Bool) (g : Nat) (caps : Array Value) (w : World) (hv : Row w v us) (hl : ps.length = us.length)
    (eg : ∀ args w, (callFunc g args).run Try.prog w = .ok (.enter g args) w)
    (hp : ∀ (i : Nat) (u : Value) (q : Bool) (W : World), us[i]? = some u → ps[i]? = some q → Ext w W → Calls Try.prog g (#[u] ++ caps) W fun e W' => e = .returned (.bool q) ∧ Ext W W')
    (q : Bool) (hq : Hid (ps.any id = q)) :
    Calls Try.prog 43 #[v, .func (.func g) #[] caps] w fun e w' => e = .returned (.bool q) ∧ Ext w w' := by
  obtain ⟨i, hi⟩ : ∃ i, Hid (idxF id ps 0 = i) := ⟨_, rfl⟩
  have hge := idxF_ge id ps 0 (Int.le_refl _)
  rw [hi.out, hq.out] at hge
  have HC := indexFunc_rows v us ps g caps w hv hl eg hp
  rw [hi.out] at HC
  have hge2 := Lib.hid hge; clear hge
  have HD := Lib.hid HC; clear HC hp hl
  go_enter Try.func43, Try.ntmps43
  go_wp2_with fail
  refine HD.out.mono ?_
  rintro e w' ⟨rfl, hx⟩
  go_wp2_with fail
  go_ret
  exact ⟨ret_bool (by have := hge2.out; cases q <;> simp at this <;> simp <;> omega), hx⟩

set_option maxHeartbeats 1600000 in
set_option maxRecDepth 100000 in
theorem winClo_any (x h : List Int) (u uh : Value) (g : Nat) (W : World) (hxu : Ints W u x) (hhu : Ints W uh h) (hx : HandOk x) (hh : HandOk h) (hc : W.cell? ⟨g, 0, none⟩ = some uh) (q : Bool) (hq : Hid (decide (valueR h < valueR x) = q)) :
    Calls Try.prog 44 #[u, .pointer (some ⟨g, 0, none⟩)] W fun e W' => e = .returned (.bool q) ∧ Ext W W' := by
  obtain ⟨a, ha⟩ : ∃ a, Hid (valueR x = a) := ⟨_, rfl⟩
  obtain ⟨b, hb⟩ : ∃ b, Hid (valueR h = b) := ⟨_, rfl⟩
  have HVX := Lib.hid (fun (W' : World) (hW : Ext W W') => handValue_any u x W' (hxu.ext hW) hx.rng (by rw [hx.len]; omega) (hand_law hx).1 a ha)
  have HVH := Lib.hid (fun (W' : World) (hW : Ext W W') => handValue_any uh h W' (hhu.ext hW) hh.rng (by rw [hh.len]; omega) (hand_law hh).1 b hb)
  rw [ha.out, hb.out] at hq
  clear hxu hhu hx hh ha hb
  go_enter Try.func44, Try.ntmps44
  go_wp2_with fail
  go_region_held3 (fun w' => w'.cell? ⟨g, 0, none⟩ = some uh) (first | exact hc | exact hx5.cell hc | exact hx6.cell hc | exact hx6.cell (hx5.cell hc) | exact hx5.cell (hx6.cell hc) | go_keep)
    (first
    | (go_at_call_of 40 u; refine (HVX.out _ (by first | exact (Ext.refl _).drew | exact (Ext.refl _).drew.trans hx6)).mono ?_; rintro e w5 ⟨rfl, hx5⟩)
    | (go_at_call_of 40 uh; refine (HVH.out _ (by first | exact (Ext.refl _).drew | exact (Ext.refl _).drew.trans hx5)).mono ?_; rintro e w6 ⟨rfl, hx6⟩))
  all_goals
    go_wp2_with fail
    go_ret
    exact ⟨ret_bool (by rw [← hq.out]), by first | exact ((Ext.refl W).drew.trans hx5).trans hx6 | exact ((Ext.refl W).drew.trans hx6).trans hx5⟩
end Go.Proofs.Ytllhgkacbpgemaa
