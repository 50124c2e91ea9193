/- walks: long; the law NatProducts -/
import Derived.Test.YtmmdfijjpeglgaaGreatDoorNtD
import Derived.Test.YtmmdfijjpeglgaaGreatDoorNtE
import Derived.Test.YtmmdfijjpeglgaaGreatDoorRtA
namespace Go.Proofs.YtmmdfijjpeglgaaGreatDoor
open Go.RowKit
set_option linter.unusedVariables false

set_option maxHeartbeats 400000 in
set_option maxRecDepth 100000 in
theorem indexFunc_strs (v : Value) (us : List Value) (ps : List Bool) (g : Nat) (caps : Array Value) (w : World) (hv : Row w v us) (hl : ps.length = us.length)
    (eg : ∀ args w, (callFunc g args).run Tryz.prog w = .ok (.enter g args) w)
    (hp : ∀ (i : Nat) (u : Value) (q : Bool) (W : World), us[i]? = some u → ps[i]? = some q → Ext w W → Calls Tryz.prog g (#[u] ++ caps) W fun e W' => e = .returned (.bool q) ∧ Ext W W') :
    Calls Tryz.prog 151 #[v, .func (.func g) #[] caps] w fun e w' => e = .returned (.int .i64 (idxF id ps 0)) ∧ Ext w w' := by
  obtain ⟨ao, c, rfl, _, hlen, _, hc⟩ := hv
  have HP := Lib.hid hp; have HL := Lib.hid hl; have HC := Lib.hid hc
  clear hp hl hc
  go_enter Tryz.func151, Tryz.ntmps151
  go_wp2_with fail
  go_loopw [8] (fun i wr => ∃ k : Nat, k ≤ us.length ∧ i = .int .i64 k ∧ Ext w wr ∧ Hid (idxF id (ps.drop k) k = idxF id ps 0)) (fun i _ => us.length - (intOf i).toNat)
  case atStart => exact ⟨0, Nat.zero_le _, rfl, Ext.refl _, rfl⟩
  case round =>
    obtain ⟨k, hk, rfl, HX, HI⟩ := hrel
    by_cases hlt : k < us.length
    · obtain ⟨x, h1, _, _⟩ := get_lt hlt
      obtain ⟨q, hq1, hq2, _⟩ := get_lt (xs := ps) (k := k) (by rw [HL.out]; exact hlt)
      obtain ⟨b, off, rfl, hc0⟩ := HC.out k x h1.out
      have hcell := HX.cell hc0
      have hcall := HP.out k x q wr h1.out hq1.out HX
      clear hc0
      have HH := Lib.hid hcall; clear hcall
      cases q
      all_goals
        go_wp2_with fail
        refine HH.out.mono ?_
        rintro e w' ⟨rfl, HB⟩
        go_wp2_with fail
      · go_roundw
        case rel => exact ⟨k + 1, by omega, by go_num, HX.trans HB, by rw [← HI.out, hq2.out]; simp [Hid, idxF]⟩
        case measure => simp [intOf]; omega
      · go_ret
        exact ⟨ret_int (by rw [← HI.out, hq2.out]; simp [idxF]), HX.trans HB⟩
    · obtain ⟨h1, _⟩ := get_ge (xs := ps) (k := k) (by rw [HL.out]; exact hlt)
      go_wp2_with fail
      go_ret
      exact ⟨ret_int (by rw [← HI.out, h1.out]; rfl), HX⟩

set_option maxHeartbeats 400000 in
set_option maxRecDepth 100000 in
theorem containsFunc_strs (v : Value) (us : List Value) (ps : List Bool) (g : Nat) (caps : Array Value) (w : World) (hv : Row w v us) (hl : ps.length = us.length)
    (eg : ∀ args w, (callFunc g args).run Tryz.prog w = .ok (.enter g args) w)
    (hp : ∀ (i : Nat) (u : Value) (q : Bool) (W : World), us[i]? = some u → ps[i]? = some q → Ext w W → Calls Tryz.prog g (#[u] ++ caps) W fun e W' => e = .returned (.bool q) ∧ Ext W W')
    (q : Bool) (hq : Hid (ps.any id = q)) :
    Calls Tryz.prog 90 #[v, .func (.func g) #[] caps] w fun e w' => e = .returned (.bool q) ∧ Ext w w' := by
  obtain ⟨i, hi⟩ : ∃ i, Hid (idxF id ps 0 = i) := ⟨_, rfl⟩
  have hge := idxF_ge id ps 0 (Int.le_refl _)
  rw [hi.out, hq.out] at hge
  have HC := indexFunc_strs v us ps g caps w hv hl eg hp
  rw [hi.out] at HC
  have hge2 := Lib.hid hge; clear hge
  have HD := Lib.hid HC; clear HC hp hl
  go_enter Tryz.func90, Tryz.ntmps90
  go_wp2_with fail
  refine HD.out.mono ?_
  rintro e w' ⟨rfl, hx⟩
  go_wp2_with fail
  go_ret
  exact ⟨ret_bool (by have := hge2.out; cases q <;> simp at this <;> simp <;> omega), hx⟩

theorem cell_new (w : World) (x : Value) (e : TypeId) : (w.alloc (.cells #[x] e)).cell? ⟨w.heap.size, 0, none⟩ = some x := by simp [World.cell?_alloc_new]
theorem lit_strs (w : World) (e : TypeId) (xs : List ByteArray) (h : xs.length ≤ 17592186044416) :
    Strs (w.alloc (.cells (xs.map Value.string).toArray e)) (.slice (some ⟨w.heap.size, 0, none⟩) xs.length xs.length) xs := by
  have := World.ownsRow_lit (base := w.heap.size) (e := e) (size := 1) w (xs.map Value.string).toArray xs.length (Nat.le_refl _) (by unfold maxLen; omega) (by simp)
  exact own_rowOf this h
theorem lit_strs_at (w : World) (e : TypeId) (xs : List ByteArray) (h : xs.length ≤ 17592186044416) (k : Nat) (hk : k = w.heap.size) :
    Strs (w.alloc (.cells (xs.map Value.string).toArray e)) (.slice (some ⟨k, 0, none⟩) xs.length xs.length) xs := by
  subst hk; exact lit_strs w e xs h

set_option maxHeartbeats 400000 in
set_option maxRecDepth 100000 in
theorem longClo_any (s : ByteArray) (n : Int) (g : Nat) (W : World) (hc : W.cell? ⟨g, 0, none⟩ = some (.int .i64 n)) (hs : s.size ≤ 9223372036854775807) :
    Calls Tryz.prog 91 #[.string s, .pointer (some ⟨g, 0, none⟩)] W fun e W' => e = .returned (.bool (decide (n < (s.size : Int)))) ∧ Ext W W' := by
  go_enter Tryz.func91, Tryz.ntmps91
  go_wp2_with fail
  go_ret
  exact ⟨rfl, Ext.refl _⟩

set_option maxHeartbeats 400000 in
set_option maxRecDepth 100000 in
theorem long_any (n : Int) (v : Value) (l : List ByteArray) (w : World) (hv : Strs w v l) (hl : ∀ s ∈ l, s.size ≤ 9223372036854775807) (q : Bool) (hq : Hid (l.any (fun s => decide (n < (s.size : Int))) = q)) :
    Calls Tryz.prog 26 #[.int .i64 n, v] w fun e w' => e = .returned (.bool q) ∧ Ext w w' := by
  have HCF := Lib.hid (fun (W : World) (g : Nat) (hW : Ext w W) (hg : W.cell? ⟨g, 0, none⟩ = some (.int .i64 n)) =>
    containsFunc_strs v (l.map Value.string) (l.map fun s => decide (n < (s.size : Int))) 91 #[.pointer (some ⟨g, 0, none⟩)] W (hv.ext hW) (by rw [List.length_map, List.length_map]) (fun _ _ => by kernel_rfl)
    (fun i u' q' W2 g1 g2 hW2 => by
      simp only [List.getElem?_map, Option.map_eq_some_iff] at g1 g2
      obtain ⟨y, hy, rfl⟩ := g1
      obtain ⟨z, hz, rfl⟩ := g2
      rw [hy] at hz
      cases hz
      exact longClo_any y n g W2 (hW2.cell hg) (hl y (List.mem_of_getElem? hy)))
    q (by show _ = _; rw [← hq.out]; simp [List.any_map, Function.comp_def]))
  clear hv hl hq
  go_enter Tryz.func26, Tryz.ntmps26
  go_wp2_with fail
  refine (HCF.out _ _ ((Ext.refl w).alloc _) (by exact cell_new w _ _)).mono ?_
  rintro e w2 ⟨rfl, X2⟩
  go_wp2_with fail
  go_ret
  exact ⟨rfl, ((Ext.refl w).alloc _).trans X2⟩

theorem prod_lt240 {n m i j : Nat} (hn : n < 10 ^ i) (hm : m < 10 ^ j) (hi : i ≤ 120) (hj : j ≤ 120) : n * m < tenP (1999 + 1) := by
  have h1 : n < tenP 120 := Nat.lt_of_lt_of_le hn (tenP_le hi)
  have h2 : m < tenP 120 := Nat.lt_of_lt_of_le hm (tenP_le hj)
  have h3 : n * m ≤ n * tenP 120 := Nat.mul_le_mul_left n (Nat.le_of_lt h2)
  have h4 : n * tenP 120 < tenP 120 * tenP 120 := Nat.mul_lt_mul_of_pos_right h1 (tenP_pos 120)
  rw [tenP_add] at h4
  exact Nat.lt_of_lt_of_le (Nat.lt_of_le_of_lt h3 h4) (tenP_le (by omega))

end Go.Proofs.YtmmdfijjpeglgaaGreatDoor
