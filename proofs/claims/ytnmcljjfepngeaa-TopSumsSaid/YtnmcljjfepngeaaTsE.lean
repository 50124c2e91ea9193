/- walks of package nimsum: insert -/
import Derived.Test.YtnmcljjfepngeaaTsD
import Derived.Deep.RegionHeld3
namespace Go.Proofs.Ytnmcljjfepngeaa
open Go.RowKit
set_option linter.unusedVariables false

set_option maxHeartbeats 400000 in
set_option maxRecDepth 100000 in
theorem indexFunc_bytes (v : Value) (us : List Value) (ps : List Bool) (g : Nat) (caps : Array Value) (w : World) (hv : Row w v us) (hl : ps.length = us.length)
    (eg : ∀ args w, (callFunc g args).run Try.prog w = .ok (.enter g args) w)
    (hp : ∀ (i : Nat) (u : Value) (q : Bool) (W : World), us[i]? = some u → ps[i]? = some q → Ext w W → Calls Try.prog g (#[u] ++ caps) W fun e W' => e = .returned (.bool q) ∧ Ext W W') :
    Calls Try.prog 37 #[v, .func (.func g) #[] caps] w fun e w' => e = .returned (.int .i64 (idxF id ps 0)) ∧ Ext w w' := by
  obtain ⟨ao, c, rfl, _, hlen, _, hc⟩ := hv
  have HP := Lib.hid hp; have HL := Lib.hid hl; have HC := Lib.hid hc
  clear hp hl hc
  go_enter Try.func37, Try.ntmps37
  go_wp2_with fail
  go_loopw [8] (fun i wr => ∃ k : Nat, k ≤ us.length ∧ i = .int .i64 k ∧ Ext w wr ∧ Hid (idxF id (ps.drop k) k = idxF id ps 0)) (fun i _ => us.length - (intOf i).toNat)
  case atStart => exact ⟨0, Nat.zero_le _, rfl, Ext.refl _, rfl⟩
  case round =>
    obtain ⟨k, hk, rfl, HX, HI⟩ := hrel
    by_cases hlt : k < us.length
    · obtain ⟨x, h1, _, _⟩ := get_lt hlt
      obtain ⟨q, hq1, hq2, _⟩ := get_lt (xs := ps) (k := k) (by rw [HL.out]; exact hlt)
      obtain ⟨b, off, rfl, hc0⟩ := HC.out k x h1.out
      have hcell := HX.cell hc0
      have hcall := HP.out k x q wr h1.out hq1.out HX
      clear hc0
      have HH := Lib.hid hcall; clear hcall
      cases q
      all_goals
        go_wp2_with fail
        refine HH.out.mono ?_
        rintro e w' ⟨rfl, HB⟩
        go_wp2_with fail
      · go_roundw
        case rel => exact ⟨k + 1, by omega, by go_num, HX.trans HB, by rw [← HI.out, hq2.out]; simp [Hid, idxF]⟩
        case measure => simp [intOf]; omega
      · go_ret
        exact ⟨ret_int (by rw [← HI.out, hq2.out]; simp [idxF]), HX.trans HB⟩
    · obtain ⟨h1, _⟩ := get_ge (xs := ps) (k := k) (by rw [HL.out]; exact hlt)
      go_wp2_with fail
      go_ret
      exact ⟨ret_int (by rw [← HI.out, h1.out]; rfl), HX⟩

set_option maxHeartbeats 400000 in
set_option maxRecDepth 100000 in
theorem clone_bytes (v : Value) (xs : List Nat) (w : World) (hv : RowOf encU w v xs) :
    Calls Try.prog 40 #[v] w fun e w' => ∃ u, e = .returned u ∧ w'.ownsRow w.heap.size 5 1 u xs.length (xs.map encU) ∧ Ext w w' := by
  have hsrc := Lib.hid (hv.src (fun _ => rfl))
  obtain ⟨ao, c, rfl, hn, hlen, hne, hc⟩ := hv
  simp only [List.length_map] at hsrc hlen ⊢
  have q22 := fun (w : World) (a : Option Addr) (n c n' c' : Nat) => Lib.run_eql_slice_nil (P := Try.prog) w 40 5 a n c n' c' Try.underlying40
  cases ao with
  | none =>
    have hxs : xs = [] := by
      cases xs with
      | nil => rfl
      | cons x xs => exact absurd rfl (hne (by simp))
    subst hxs
    clear hsrc hc hne hn hlen
    go_enter Try.func40, Try.ntmps40
    go_wp2_with fail
    go_ret
    exact ⟨_, rfl, World.ownsRow_nil _ _ _ _, Ext.refl _⟩
  | some ad =>
    clear hc hne hn
    go_enter Try.func40, Try.ntmps40
    have hs2 := hsrc.out.ext ((Ext.refl w).alloc (.cells #[] 5))
    have hs3 := Lib.hid hs2; clear hs2
    go_wp2_with (at_builtin; refine wp_app rfl rfl ts_ei_u8 rfl (own_empty w _) rfl hs3.out (by omega) (by omega) (by simp) ?_; intro v' w' hown hgrew)
    go_ret
    exact ⟨_, rfl, by simpa using hown, hgrew.extNew ((Ext.refl w).alloc _) (own_empty w _) (Nat.le_refl _)⟩

/-- slices.Insert of one byte into a row of one's own -/
theorem insertLib_any (xs : List Nat) (x i : Nat) (s v : Value) (w0 w : World) (hl : xs.length ≤ 64) (hi : i ≤ xs.length) (hs : w.ownsRow w0.heap.size 5 1 s xs.length (xs.map encU)) (hv : w.ownsRow w0.heap.size 5 1 v 1 [encU x]) (hne : ∀ k, v.ownBlock = some k → s.ownBlock ≠ some k) (X : Ext w0 w) :
    Calls Try.prog 39 #[s, .int .i64 i, v] w fun e w' => ∃ u, e = .returned u ∧ RowOf encU w' u (xs.take i ++ x :: xs.drop i) ∧ Ext w0 w' := by
  by_cases h : i = xs.length
  · subst h
    have := insertEnd_any xs x s v w0 w hl hs hv X
    rw [List.take_of_length_le (Nat.le_refl _), List.drop_of_length_le (Nat.le_refl _)]
    exact this
  · rcases hs.2 with ⟨rfl, h2⟩ | ⟨g, c, cur, rfl, _, _, hnc, _⟩
    · omega
    · by_cases hc : xs.length < c
      · exact insertRoom_any xs x i g c v w0 w hl (by omega) hc hs hv (fun e => hne g e rfl) X
      · obtain rfl : c = xs.length := by omega
        exact insertGrow_any xs x i g v w0 w hl (by omega) hs hv X

/-! ### insert -/
theorem ins_at : ∀ (xs : List Nat) (x : Nat), ∃ i, i ≤ xs.length ∧ ins xs x = xs.take i ++ x :: xs.drop i ∧ ((idxF id (xs.map fun y => decide (x ≤ y)) 0 = (i : Int) ∧ i < xs.length) ∨ (idxF id (xs.map fun y => decide (x ≤ y)) 0 = -1 ∧ i = xs.length))
  | [], x => ⟨0, Nat.le_refl _, rfl, .inr ⟨rfl, rfl⟩⟩
  | y :: t, x => by
    have key : ∀ (l : List Bool) (k : Int), 0 ≤ k → (idxF id l k = -1 ∧ idxF id l 0 = -1) ∨ ∃ j : Nat, idxF id l k = k + j ∧ idxF id l 0 = (j : Int) := by
      intro l
      induction l with
      | nil => intro k hk; exact .inl ⟨rfl, rfl⟩
      | cons b l ih =>
        intro k hk
        rw [idxF, idxF]
        cases b with
        | true => exact .inr ⟨0, by simp, by simp⟩
        | false =>
          rcases ih (k + 1) (by omega) with ⟨h1, h2⟩ | ⟨j, h1, h2⟩
          · rcases ih (0 + 1) (by omega) with ⟨h3, _⟩ | ⟨j, _, h4⟩
            · exact .inl ⟨by simpa using h1, by simpa using h3⟩
            · rw [h2] at h4; omega
          · rcases ih (0 + 1) (by omega) with ⟨_, h4⟩ | ⟨j2, h3, h4⟩
            · rw [h2] at h4; omega
            · refine .inr ⟨j + 1, by simp only [id, Bool.false_eq_true, if_false]; rw [h1]; omega, by simp only [id, Bool.false_eq_true, if_false]; rw [h3]; omega⟩
    by_cases h : x ≤ y
    · refine ⟨0, Nat.zero_le _, by rw [ins, if_pos h]; rfl, .inl ⟨?_, by simp⟩⟩
      rw [List.map_cons, idxF]
      simp [h]
    · obtain ⟨i, h1, h2, h3⟩ := ins_at t x
      refine ⟨i + 1, by simp; omega, by rw [ins, if_neg h, h2]; rfl, ?_⟩
      rw [List.map_cons, idxF]
      simp only [id, h, decide_false, Bool.false_eq_true, if_false]
      rcases key (t.map fun y => decide (x ≤ y)) (0 + 1) (by omega) with ⟨k1, k2⟩ | ⟨j, k1, k2⟩
      · rcases h3 with ⟨h3, h4⟩ | ⟨h3, h4⟩
        · rw [h3] at k2; omega
        · exact .inr ⟨k1, by simp [h4]⟩
      · rcases h3 with ⟨h3, h4⟩ | ⟨h3, h4⟩
        · rw [h3] at k2
          exact .inl ⟨by rw [k1]; omega, by simp; omega⟩
        · rw [h3] at k2; omega
theorem ins_length (xs : List Nat) (x : Nat) : (ins xs x).length = xs.length + 1 := by
  obtain ⟨i, h1, h2, _⟩ := ins_at xs x
  rw [h2, ins_len _ _ _ h1]

set_option maxHeartbeats 400000 in
set_option maxRecDepth 100000 in
theorem insertClo_any (x y k : Nat) (w : World) (h : w.cell? ⟨k, 0, none⟩ = some (encU x)) :
    Calls Try.prog 38 #[encU y, .pointer (some ⟨k, 0, none⟩)] w fun e w' => e = .returned (.bool (decide (x ≤ y))) ∧ Ext w w' := by
  unfold encU at h ⊢
  by_cases hxy : x ≤ y
  · have b1 : (x : Int) ≤ (y : Int) := by omega
    rw [decide_eq_true hxy]
    go_enter Try.func38, Try.ntmps38
    go_wp2_with fail
    go_ret
    exact ⟨by first | rfl | simp [b1], Ext.refl _⟩
  · have b1 : ¬ (x : Int) ≤ (y : Int) := by omega
    rw [decide_eq_false hxy]
    go_enter Try.func38, Try.ntmps38
    go_wp2_with fail
    go_ret
    exact ⟨by first | rfl | simp [b1], Ext.refl _⟩
end Go.Proofs.Ytnmcljjfepngeaa
