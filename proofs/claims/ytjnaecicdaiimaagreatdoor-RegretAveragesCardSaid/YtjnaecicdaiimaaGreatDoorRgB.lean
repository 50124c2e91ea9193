/- walk: historyError -/
import Derived.Test.YtjnaecicdaiimaaGreatDoorRgX
namespace Go.Proofs.YtjnaecicdaiimaaGreatDoor
open Go.RowKit
set_option linter.unusedVariables false

set_option maxHeartbeats 1600000 in
set_option maxRecDepth 100000 in
theorem rWide_same (v : Value) (m : List (List ByteArray)) (w : World) (hv : Rows Value.string w v m) :
    Calls Tryz.prog 35 #[v] w fun e w' => e = .returned (.int .i64 (wideL m)) ∧ w' = w := by
  obtain ⟨us, hr, hul, hel⟩ := hv
  obtain ⟨ao, c, rfl, _, hlen, _, hc⟩ := hr
  cases m with
  | nil =>
    have h0 : us.length = 0 := hul
    rw [h0]
    clear hc hel
    go_enter Tryz.func35, Tryz.ntmps35
    go_wp2_with fail
    go_ret
    exact ⟨rfl, rfl⟩
  | cons l t =>
    have h0 : 0 < us.length := by rw [hul]; simp
    obtain ⟨u0, e1, e2, e3⟩ := get_lt h0
    obtain ⟨b, off, rfl, hc1⟩ := hc 0 u0 e1.out
    have hcell0 : w.cell? ⟨b, off, none⟩ = some u0 := hc1
    obtain ⟨ao3, c3, rfl, hlen3, hc3⟩ := (hel 0 u0 l e1.out rfl).open
    have h0i : (0 : Int) < (us.length : Int) := by omega
    have h0b : ((us.length : Int) == 0) = false := by rw [beq_eq_false_iff_ne]; omega
    clear hc hel hul hc1 hc3 h0
    go_enter Tryz.func35, Tryz.ntmps35
    go_wp2_with fail
    go_ret
    exact ⟨rfl, rfl⟩

set_option maxHeartbeats 3200000 in
set_option maxRecDepth 100000 in
theorem history_any (v u : Value) (m : List (List ByteArray)) (ps : List (Int × Int)) (w : World) (hv : Rows Value.string w v m) (hu : Prs w u ps) (hs : ∀ l ∈ m, ∀ s ∈ l, s.size ≤ 9223372036854775806) (Q : Int) (hQ : histE m ps = Q) :
    Calls Tryz.prog 20 #[v, u] w fun e w' => e = .returned (.int .i64 Q) ∧ Ext w w' := by
  obtain ⟨wo, rfl⟩ : ∃ wo : World, wo = w := ⟨_, rfl⟩
  have HG := Lib.hid (fun W (hx : Ext wo W) => gameError_any v m W (hv.ext hx) hs (gameE m) rfl)
  have HW := Lib.hid (fun W (hx : Ext wo W) => rWide_same v m W (hv.ext hx))
  have hz := gameE_zero (m := m)
  obtain ⟨us, hr, hul, hel⟩ := hv
  obtain ⟨ao, c, rfl, _, hlen, _, hc⟩ := hr
  unfold histE at hQ
  by_cases hp : gameE m = 0
  rotate_left
  · rw [if_pos hp] at hQ
    rw [hQ] at HG hp
    have hpb : (Q != 0) = true := by simp [hp]
    clear hc hel hs hul hz hp hQ hu
    go_enter Tryz.func20, Tryz.ntmps20
    go_wp2_with fail
    refine (HG.out _ (Ext.refl _)).mono ?_
    rintro e w2 ⟨rfl, X2⟩
    go_wp2_with fail
    go_ret
    exact ⟨rfl, X2⟩
  rw [if_neg (by simpa using hp)] at hQ
  rw [hp] at HG
  obtain ⟨bo, d, rfl, hul2, hpc⟩ := hu
  by_cases hp2 : 200 < ps.length
  · rw [if_pos hp2] at hQ
    subst hQ
    have hpi : (200 : Int) < (ps.length : Int) := by omega
    clear hc hel hs hul hz hpc hp2
    go_enter Tryz.func20, Tryz.ntmps20
    go_wp2_with fail
    refine (HG.out _ (Ext.refl _)).mono ?_
    rintro e w2 ⟨rfl, X2⟩
    go_wp2_with fail
    go_ret
    exact ⟨rfl, X2⟩
  rw [if_neg hp2, ← hul] at hQ
  have hpi : (ps.length : Int) ≤ 200 := by omega
  have HQ := Lib.hid hQ
  have HPC := Lib.hid hpc
  clear hc hel hs hul hz hp2 hQ hp hpc
  go_enter Tryz.func20, Tryz.ntmps20
  go_wp2_with fail
  refine (HG.out _ (Ext.refl _)).mono ?_
  rintro e w2 ⟨rfl, X2⟩
  go_wp2_with fail
  go_loopw [18] (fun iv wr => ∃ (i : Nat), i ≤ ps.length ∧ iv = .int .i64 i ∧ Ext wo wr ∧ Hid ((if (ps.drop i).any (badP us.length (wideL m)) = true then (4 : Int) else 0) = Q)) (fun iv _ => ps.length - (intOf iv).toNat)
  case atStart => exact ⟨0, Nat.zero_le _, rfl, X2, by show _ = _; rw [List.drop_zero]; exact HQ.out⟩
  case round =>
    obtain ⟨i, hi, rfl, X, HI⟩ := hrel
    by_cases hlt : i < ps.length
    · obtain ⟨p, d1, d2, d3⟩ := get_lt hlt
      obtain ⟨b, off, rfl, hc0, hc1⟩ := HPC.out.ext X i p d1.out
      obtain ⟨a, b2⟩ := p
      dsimp only at hc0 hc1
      have hki : (i : Int) < (ps.length : Int) := by omega
      have hi2 := HI.out
      rw [d2.out, List.any_cons] at hi2
      have XR := X.alloc (.cells #[.int .i64 a, .int .i64 b2] 32)
      have k1 : (wr.alloc (.cells #[.int .i64 a, .int .i64 b2] 32)).cell? ⟨wr.heap.size, 0, none⟩ = some (.int .i64 a) := by simp [go_sem]
      have k2 : (wr.alloc (.cells #[.int .i64 a, .int .i64 b2] 32)).cell? ⟨wr.heap.size, 1, none⟩ = some (.int .i64 b2) := by simp [go_sem]
      clear hlt
      rcases (show a < 0 ∨ (0 ≤ a ∧ (us.length : Int) ≤ a) ∨ (0 ≤ a ∧ a < (us.length : Int) ∧ b2 < 0) ∨ (0 ≤ a ∧ a < (us.length : Int) ∧ 0 ≤ b2 ∧ (wideL m : Int) ≤ b2) ∨ (0 ≤ a ∧ a < (us.length : Int) ∧ 0 ≤ b2 ∧ b2 < (wideL m : Int)) by omega) with h1 | ⟨h1, h2⟩ | ⟨h1, h2, h3⟩ | ⟨h1, h2, h3, h4⟩ | ⟨h1, h2, h3, h4⟩
      · have hb : badP us.length (wideL m) (a, b2) = true := decide_eq_true (by dsimp only; omega)
        rw [hb, Bool.true_or, if_pos rfl] at hi2
        have HI2 := Lib.hid hi2
        clear hi2 hb
        go_wp2_with fail
        go_quiet (fail)
        go_wp2_with fail
        go_ret
        exact ⟨by rw [← HI2.out]; rfl, XR.drewN _⟩
      · have hb : badP us.length (wideL m) (a, b2) = true := decide_eq_true (by dsimp only; omega)
        rw [hb, Bool.true_or, if_pos rfl] at hi2
        have HI2 := Lib.hid hi2
        clear hi2 hb
        go_wp2_with fail
        go_quiet (fail)
        go_wp2_with fail
        go_ret
        exact ⟨by rw [← HI2.out]; rfl, XR.drewN _⟩
      · have hb : badP us.length (wideL m) (a, b2) = true := decide_eq_true (by dsimp only; omega)
        rw [hb, Bool.true_or, if_pos rfl] at hi2
        have HI2 := Lib.hid hi2
        clear hi2 hb
        go_wp2_with fail
        go_quiet (fail)
        go_wp2_with fail
        go_ret
        exact ⟨by rw [← HI2.out]; rfl, XR.drewN _⟩
      · have hb : badP us.length (wideL m) (a, b2) = true := decide_eq_true (by dsimp only; omega)
        rw [hb, Bool.true_or, if_pos rfl] at hi2
        have HI2 := Lib.hid hi2
        clear hi2 hb
        go_wp2_with fail
        go_quiet ((go_at_call 35; exact Calls.quiet_of_same (HW.out _ (by exact XR.drewN _))))
        go_wp2_with fail
        go_ret
        exact ⟨by rw [← HI2.out]; rfl, XR.drewN _⟩
      · have hb : badP us.length (wideL m) (a, b2) = false := decide_eq_false (by dsimp only; omega)
        rw [hb, Bool.false_or] at hi2
        have HI2 := Lib.hid hi2
        clear hi2 hb
        go_wp2_with fail
        go_quiet ((go_at_call 35; exact Calls.quiet_of_same (HW.out _ (by exact XR.drewN _))))
        go_wp2_with fail
        go_roundw
        case rel => exact ⟨i + 1, by omega, by go_num, XR.drewN _, HI2⟩
        case measure => simp [intOf] <;> omega
    · have hil : ps.length = i := by omega
      have hi2 := HI.out
      rw [← hil, List.drop_length] at hi2
      have HI2 := Lib.hid hi2
      clear hi2 hlt
      go_wp2_with fail
      go_ret
      exact ⟨by rw [← HI2.out]; rfl, X⟩
end Go.Proofs.YtjnaecicdaiimaaGreatDoor
