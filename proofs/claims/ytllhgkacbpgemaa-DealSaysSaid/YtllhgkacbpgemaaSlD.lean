/- slices.Index, slices.Contains at bools -/
import Derived.Test.YtllhgkacbpgemaaSlB
namespace Go.Proofs.Ytllhgkacbpgemaa
open Go.RowKit

def idxB (x : Bool) : List Bool → Int → Int
  | [], _ => -1
  | y :: ys, k => if y = x then k else idxB x ys (k + 1)

theorem idxB_ge (x : Bool) (ys : List Bool) : ∀ k, 0 ≤ k → ((0 ≤ idxB x ys k) ↔ x ∈ ys) := by
  induction ys with
  | nil => intro k _; simp [idxB]
  | cons y ys ih =>
    intro k hk
    by_cases h : y = x
    · subst h; simp [idxB, hk]
    · have h2 : ¬ x = y := fun e => h e.symm
      simp [idxB, h, h2, ih (k + 1) (by omega)]

set_option maxHeartbeats 400000 in
set_option maxRecDepth 100000 in
theorem index_bools (v : Value) (xs : List Bool) (x : Bool) (w : World) (hv : Bools w v xs) (q : Int) (hq : Hid (idxB x xs 0 = q)) :
    Calls Try.prog 62 #[v, .bool x] w fun e w' => e = .returned (.int .i64 q) ∧ w = w' := by
  obtain ⟨ao, c, rfl, hlen, hc⟩ := hv.open
  clear hv
  go_enter Try.func62, Try.ntmps62
  go_wp2_with fail
  go_loop [8] (fun i => ∃ k : Nat, k ≤ xs.length ∧ i = .int .i64 k ∧ Hid (idxB x (xs.drop k) k = q)) (fun i => xs.length - (intOf i).toNat)
  case atStart => exact ⟨0, Nat.zero_le _, rfl, hq⟩
  case round =>
    obtain ⟨k, hk, rfl, HI⟩ := hrel
    by_cases hlt : k < xs.length
    · obtain ⟨y, h1, h2, _⟩ := get_lt hlt
      obtain ⟨b, off, rfl, hcell⟩ := hc.at h1
      by_cases hxy : x = y
      · have hb : (x == y) = true := by simp [hxy]
        have HXY := Lib.hid hxy; clear hxy
        go_wp2_with fail
        go_ret
        exact ⟨ret_int (by rw [← HI.out, h2.out, idxB, if_pos HXY.out.symm]), rfl⟩
      · have hb : (x == y) = false := by simp [hxy]
        have HXY := Lib.hid hxy; clear hxy
        go_wp2_with fail
        go_round
        case rel => exact ⟨k + 1, by omega, by go_num, by rw [← HI.out, h2.out]; simp only [Hid, idxB]; rw [if_neg (fun e => HXY.out e.symm)]; rfl⟩
        case measure => simp [intOf]; omega
    · obtain ⟨h1, _⟩ := get_ge hlt
      go_wp2_with fail
      go_ret
      exact ⟨ret_int (by rw [← HI.out, h1.out]; rfl), rfl⟩

set_option maxHeartbeats 400000 in
set_option maxRecDepth 100000 in
theorem contains_bools (v : Value) (xs : List Bool) (x : Bool) (w : World) (hv : Bools w v xs) (q : Bool) (hq : Hid (decide (x ∈ xs) = q)) :
    Calls Try.prog 30 #[v, .bool x] w fun e w' => e = .returned (.bool q) ∧ w = w' := by
  obtain ⟨i, hi⟩ : ∃ i, Hid (idxB x xs 0 = i) := ⟨_, rfl⟩
  have hge := idxB_ge x xs 0 (Int.le_refl _)
  rw [hi.out] at hge
  have HD := Lib.hid (index_bools v xs x w hv i hi)
  have hge2 := Lib.hid hge; clear hge hv
  go_enter Try.func30, Try.ntmps30
  go_wp2_with fail
  refine HD.out.mono ?_
  rintro e w' ⟨rfl, rfl⟩
  go_wp2_with fail
  go_ret
  refine ⟨ret_bool ?_, rfl⟩
  rw [← hq.out]
  have := hge2.out
  rw [Bool.eq_iff_iff]
  simp [this]
end Go.Proofs.Ytllhgkacbpgemaa
