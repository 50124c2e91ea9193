/- walks of the package index: Counts, Count; slices.Clone, Equal -/
import Derived.Test.YtllhgkacbpgemaaIdx2
import Derived.Deep.QuietTactic
import Derived.BigQuiet
namespace Go.Proofs.Ytllhgkacbpgemaa
open Go.RowKit

theorem cellsOk_of {xs : List Int} (h : xs.any (fun c => !inB c 0 6) = false) : cellsOk xs := by
  intro c hc
  have := List.any_eq_false.1 h c hc
  simpa [inB] using this

theorem cellsErr_zero {xs : List Int} (h : cellsErr xs = 0) : cellsOk xs ∧ xs.length ≤ 16 := by
  unfold cellsErr at h
  split at h
  · omega
  · split at h
    · omega
    · rename_i h1 h2
      exact ⟨cellsOk_of (by simpa using h2), by omega⟩

theorem cellsErr_cases (xs : List Int) : Hid (cellsErr xs = 0) ∨ (Hid (cellsErr xs = cellsErr xs) ∧ (cellsErr xs == 0) = false ∧ (cellsErr xs != 0) = true) := by
  by_cases h : cellsErr xs = 0
  · exact .inl h
  · exact .inr ⟨rfl, by simp [h], by simp [h]⟩

set_option maxHeartbeats 400000 in
theorem Counts_err (v : Value) (xs : List Int) (w : World) (hv : Ints w v xs) (h : cellsErr xs ≠ 0) :
    Calls Try.prog 11 #[v] w fun e w' => e = .returned (.tuple #[.slice none 0 0, .int .i64 (cellsErr xs)]) ∧ Ext w w' := by
  have HD := Lib.hid (check_any v xs w hv)
  have h2 : (cellsErr xs != 0) = true := by simp [h]
  clear hv h
  generalize cellsErr xs = q at *
  go_enter Try.func11, Try.ntmps11
  go_wp2_with fail
  refine HD.out.mono ?_
  rintro e w' ⟨rfl, hx⟩
  go_wp2_with fail
  go_ret2
  exact ⟨rfl, hx⟩

set_option maxHeartbeats 400000 in
theorem Counts_ok (v : Value) (xs : List Int) (w : World) (hv : Ints w v xs) (h : cellsErr xs = 0) :
    Calls Try.prog 11 #[v] w fun e w' => ∃ u, e = .returned (.tuple #[u, .int .i64 0]) ∧ Ints w' u (cnts xs) ∧ Ext w w' := by
  have HD := check_any v xs w hv
  rw [h] at HD
  have hok := (cellsErr_zero h).1
  have HD := Lib.hid HD
  have HK := fun W => @counts_any v xs W
  have HK := Lib.hid HK
  have HV := Lib.hid hv
  clear hv h
  go_enter Try.func11, Try.ntmps11
  go_wp2_with fail
  refine HD.out.mono ?_
  rintro e w' ⟨rfl, hx⟩
  go_wp2_with fail
  refine (HK.out _ (HV.out.ext hx) hok).mono ?_
  rintro e w'' ⟨u, rfl, hu, hx2⟩
  go_wp2_with fail
  go_ret2
  exact ⟨_, rfl, own_rowOf hu (by decide), hx.trans hx2⟩

theorem countsErr_zero {xs : List Int} (h : countsErr xs = 0) : xs.length = 7 ∧ (∀ x ∈ xs, 0 ≤ x ∧ x ≤ 16) ∧ xs.sum ≤ 16 := by
  unfold countsErr at h
  split at h
  · omega
  · split at h
    · omega
    · split at h
      · omega
      · rename_i h1 h2 h3
        refine ⟨by omega, fun c hc => ?_, by omega⟩
        have h2 : xs.any (fun c => !inB c 0 16) = false := by simpa using h2
        have := List.any_eq_false.1 h2 c hc
        simpa [inB] using this

theorem toNats {w : World} {v : Value} {xs : List Int} (hv : Ints w v xs) (h : ∀ x ∈ xs, 0 ≤ x) : Nats w v (xs.map Int.toNat) := by
  have : (xs.map Int.toNat).map (fun (n : Nat) => Value.int .i64 n) = xs.map (Value.int .i64) := by
    rw [List.map_map]
    refine List.map_congr_left fun x hx => ?_
    have := h x hx
    simp only [Function.comp]
    rw [Int.toNat_of_nonneg this]
  unfold Nats RowOf
  rw [this]; exact hv

theorem sum_toNats {xs : List Int} (h : ∀ x ∈ xs, 0 ≤ x) : ((xs.map Int.toNat).sum : Int) = xs.sum := by
  induction xs with
  | nil => rfl
  | cons x xs ih =>
    have h1 := h x (by simp)
    have h2 := ih (fun y hy => h y (by simp [hy]))
    simp only [List.map_cons, List.sum_cons]
    omega

/-- what Count computes -/
def countV (xs : List Int) : Int := if countsErr xs = 0 then (waysN (xs.map Int.toNat) : Nat) else 0

set_option maxHeartbeats 400000 in
theorem Count_any (v : Value) (xs : List Int) (w : World) (hv : Ints w v xs) :
    Calls Try.prog 12 #[v] w fun e w' => e = .returned (.tuple #[.int .i64 (countV xs), .int .i64 (countsErr xs)]) ∧ Ext w w' := by
  have HD := checkCounts_any v xs w hv
  by_cases h : countsErr xs = 0
  · obtain ⟨h1, h2, h3⟩ := countsErr_zero h
    have HV := Lib.hid (toNats hv (fun x hx => (h2 x hx).1))
    have hs : (xs.map Int.toNat).sum ≤ 16 := by
      have := sum_toNats (fun x hx => (h2 x hx).1); omega
    have hcv : countV xs = (waysN (xs.map Int.toNat) : Nat) := by simp [countV, h]
    rw [hcv]
    rw [h] at HD ⊢
    have HD := Lib.hid HD
    clear hv h h1 h2 h3 hcv
    generalize xs.map Int.toNat = l at *
    go_enter Try.func12, Try.ntmps12
    go_wp2_with fail
    refine HD.out.mono ?_
    rintro e w' ⟨rfl, hx⟩
    go_wp2_with fail
    refine (ways_any _ l _ (HV.out.ext hx) hs).mono ?_
    rintro e w'' ⟨rfl, rfl⟩
    go_wp2_with fail
    go_ret2
    exact ⟨rfl, hx⟩
  · have h2 : (countsErr xs != 0) = true := by simp [h]
    have hcv : countV xs = 0 := by simp [countV, h]
    rw [hcv]
    clear hv h hcv
    generalize countsErr xs = q at *
    have HD := Lib.hid HD
    go_enter Try.func12, Try.ntmps12
    go_wp2_with fail
    refine HD.out.mono ?_
    rintro e w' ⟨rfl, hx⟩
    go_wp2_with fail
    go_ret2
    exact ⟨rfl, hx⟩

/-! ### slices.Clone, Equal -/
set_option maxHeartbeats 400000 in
set_option maxRecDepth 100000 in
theorem clone_ints (v : Value) (xs : List Int) (w : World) (hv : Ints w v xs) :
    Calls Try.prog 53 #[v] w fun e w' => ∃ u, e = .returned u ∧ w'.ownsRow w.heap.size 3 1 u xs.length (xs.map (Value.int .i64)) ∧ Ext w w' := by
  have hsrc := Lib.hid (hv.src (fun _ => rfl))
  obtain ⟨ao, c, rfl, hn, hlen, hne, hc⟩ := hv
  simp only [List.length_map] at hsrc hlen ⊢
  have q22 := fun (w : World) (a : Option Addr) (n c n' c' : Nat) => Lib.run_eql_slice_nil (P := Try.prog) w 22 3 a n c n' c' Try.underlying22
  cases ao with
  | none =>
    have hxs : xs = [] := by
      cases xs with
      | nil => rfl
      | cons x xs => exact absurd rfl (hne (by simp))
    subst hxs
    clear hsrc hc hne hn hlen
    go_enter Try.func53, Try.ntmps53
    go_wp2_with fail
    go_ret
    exact ⟨_, rfl, World.ownsRow_nil _ _ _ _, Ext.refl _⟩
  | some ad =>
    clear hc hne hn
    go_enter Try.func53, Try.ntmps53
    have hs2 := hsrc.out.ext ((Ext.refl w).alloc (.cells #[] 3))
    have hs3 := Lib.hid hs2; clear hs2
    go_wp2_with (at_builtin; refine wp_app rfl rfl ei_ints rfl (own_empty w _) rfl hs3.out (by omega) (by omega) (by simp) ?_; intro v' w' hown hgrew)
    go_ret
    exact ⟨_, rfl, by simpa using hown, hgrew.extNew ((Ext.refl w).alloc _) (own_empty w _) (Nat.le_refl _)⟩

set_option maxHeartbeats 400000 in
set_option maxRecDepth 100000 in
theorem equal_ints (u v : Value) (xs ys : List Int) (w : World) (hu : Ints w u xs) (hv : Ints w v ys) (q : Bool) (hq : Hid (decide (xs = ys) = q)) :
    Calls Try.prog 22 #[u, v] w fun e w' => e = .returned (.bool q) ∧ Ext w w' := by
  obtain ⟨ao, c, rfl, hlen, hc⟩ := hu.open
  obtain ⟨bo, d, rfl, hlen2, hd⟩ := hv.open
  clear hu hv
  by_cases hl : xs.length = ys.length
  · have HL := Lib.hid hl
    have hle : xs.length ≤ ys.length := by omega
    have hl' : (((xs.length : Nat) : Int) != ((ys.length : Nat) : Int)) = false := by simp [hl]
    clear hl
    go_enter Try.func22, Try.ntmps22
    go_wp2_with fail
    go_loopw [13] (fun i wr => ∃ k : Nat, k ≤ xs.length ∧ i = .int .i64 k ∧ Ext w wr ∧ Hid (xs.take k = ys.take k)) (fun i _ => xs.length - (intOf i).toNat)
    case atStart => exact ⟨0, Nat.zero_le _, rfl, Ext.refl _, rfl⟩
    case round =>
      obtain ⟨k, hk, rfl, HX, HI⟩ := hrel
      by_cases hlt : k < xs.length
      · have hlt2 : k < ys.length := by omega
        obtain ⟨x, h1, h2, h3⟩ := get_lt hlt
        obtain ⟨y, g1, g2, g3⟩ := get_lt hlt2
        obtain ⟨b, off, rfl, _⟩ := hc.at h1
        have hcell := (hc.ext HX).at' h1
        obtain ⟨b2, off2, rfl, _⟩ := hd.at g1
        have hcell2 := (hd.ext HX).at' g1
        by_cases hxy : x = y
        · have hx1 : (x != y) = false := by simp [hxy]
          have hx2 : (x == y) = true := by simp [hxy]
          have HXY := Lib.hid hxy; clear hxy
          go_wp2_with fail
          go_quiet (fail)
          go_wp2_with fail
          go_roundw
          case rel => exact ⟨k + 1, by omega, by go_num, HX.drewN _, by rw [h3.out, g3.out, HI.out, HXY.out]; rfl⟩
          case measure => simp [intOf]; omega
        · have hx1 : (x != y) = true := by simp [hxy]
          have hx2 : (x == y) = false := by simp [hxy]
          have HXY := Lib.hid hxy; clear hxy
          go_wp2_with fail
          go_quiet (fail)
          go_wp2_with fail
          go_ret
          refine ⟨ret_bool ?_, HX.drewN _⟩
          rw [← hq.out, eq_comm, decide_eq_false_iff_not]
          intro e
          apply HXY.out
          have e1 := h1.out
          rw [e, g1.out] at e1
          exact (Option.some.inj e1).symm
      · obtain ⟨_, h1⟩ := get_ge hlt
        obtain ⟨_, g1⟩ := get_ge (xs := ys) (k := k) (by have := HL.out; omega)
        go_wp2_with fail
        go_ret
        refine ⟨ret_bool ?_, HX⟩
        rw [← hq.out, eq_comm, decide_eq_true_eq, ← h1.out, ← g1.out]
        exact HI.out
  · have hl' : (((xs.length : Nat) : Int) != ((ys.length : Nat) : Int)) = true := by simp; omega
    go_enter Try.func22, Try.ntmps22
    go_wp2_with fail
    go_ret
    refine ⟨ret_bool ?_, Ext.refl _⟩
    rw [← hq.out, eq_comm, decide_eq_false_iff_not]
    intro e; exact hl (by rw [e])
end Go.Proofs.Ytllhgkacbpgemaa
