/- the walk of CardsShuffles -/
import Derived.Test.YtllhgkacbpgemaaDoorCardsF
namespace Go.Proofs.YtllhgkacbpgemaaDoor
open Go.RowKit
set_option linter.unusedVariables false

set_option maxHeartbeats 800000 in
set_option maxRecDepth 100000 in
theorem first_two (v : Value) (a b : Int) (w : World) (hv : Ints w v [a, b]) (q : Int) (hq : Hid ((if a ≠ 0 then a else b) = q)) :
    Calls Tryd.prog 14 #[v] w fun e w' => e = .returned (.int .i64 q) ∧ w = w' := by
  obtain ⟨ao, c, rfl, hlen, hc⟩ := hv.open
  obtain ⟨bk, o, rfl, c0⟩ := hc.at (i := 0) (x := a) rfl
  have c1 := hc.at' (i := 1) (x := b) rfl
  simp only [List.length_cons, List.length_nil, Nat.add_zero] at *
  have HC0 := Lib.hid c0; have HC1 := Lib.hid c1
  clear hv hc c0 c1
  go_enter Tryd.func14, Tryd.ntmps14
  go_wp2_with fail
  go_loop [7] (fun i => ∃ k : Nat, k ≤ 2 ∧ i = .int .i64 k ∧ Hid (1 ≤ k → a = 0) ∧ Hid (2 ≤ k → b = 0)) (fun i => 2 - (intOf i).toNat)
  case atStart => exact ⟨0, by omega, rfl, fun h => by omega, fun h => by omega⟩
  case round =>
    obtain ⟨k, hk, rfl, HA, HB⟩ := hrel
    have hk3 : k = 0 ∨ k = 1 ∨ k = 2 := by omega
    rcases hk3 with rfl | rfl | rfl
    · have c0 := HC0.out
      by_cases ha : a = 0
      · have hb : (a != 0) = false := by simp [ha]
        have HA2 := Lib.hid ha
        clear ha
        go_wp2_with fail
        go_round
        case rel => exact ⟨1, by omega, rfl, fun _ => HA2.out, fun h => by omega⟩
        case measure => simp [intOf]
      · have hb : (a != 0) = true := by simp [ha]
        have haq : a = q := by rw [← hq.out, if_pos ha]
        subst haq
        clear ha
        go_wp2_with fail
        go_ret
        exact ⟨rfl, rfl⟩
    · have c0 := HC1.out
      have ha : a = 0 := HA.out (by omega)
      have hbq : b = q := by rw [← hq.out, if_neg (by simpa using ha)]
      subst hbq
      clear ha
      by_cases hb0 : b = 0
      · have hb : (b != 0) = false := by simp [hb0]
        have HB2 := Lib.hid hb0
        clear hb0
        go_wp2_with fail
        go_round
        case rel => exact ⟨2, by omega, rfl, fun _ => HA.out (by omega), fun _ => HB2.out⟩
        case measure => simp [intOf]
      · have hb : (b != 0) = true := by simp [hb0]
        clear hb0
        go_wp2_with fail
        go_ret
        exact ⟨rfl, rfl⟩
    · have ha : a = 0 := HA.out (by omega)
      have hb0 : b = 0 := HB.out (by omega)
      have hbq : q = 0 := by rw [← hq.out, if_neg (by simpa using ha)]; exact hb0
      have HQ := Lib.hid hbq
      clear ha hb0 hbq
      go_wp2_with fail
      go_ret
      exact ⟨ret_int HQ.out.symm, rfl⟩

set_option maxHeartbeats 1600000 in
set_option maxRecDepth 100000 in
theorem shuffles_lo_e1 (u v : Value) (xs ds : List Int) (n : Int) (w : World) (hsh : w.ShapedOpen Tryd.prog) (hu : Ints w u xs) (hv : Ints w v ds) (hl : xs.length + 512 ≤ 17592186044416) (h1 : n < 0) (h2 : deckErr xs ≠ 0) :
    Calls Tryd.prog 3 #[u, v, .int .i64 n] w fun e w' => e = .returned (.bool true) ∧ Ext w w' := by
  have HF := Lib.hid (cardsFact_any w hsh)
  have HN := Lib.hid (fun W => fresh_err n W (.inl h1))
  have HD := fun (W : World) (hW : Ext w W) => deckError_any u xs W (hu.ext hW)
  have HC := fun (W : World) (hW : Ext w W) => check_any u xs W (hu.ext hW)
  have HT := fun (W : World) (hW : Ext w W) => fits_any xs.length v ds W (hv.ext hW) (by omega)
  have HR := fun (W : World) (hW : Ext w W) => drawsError_any xs.length v ds W (hv.ext hW) (by omega)
  have HS := fun (W : World) (hW : Ext w W) => shuffle_err1 u v xs ds W (hu.ext hW) h2
  obtain ⟨de, hde⟩ : ∃ de, deckErr xs = de := ⟨_, rfl⟩
  rw [hde] at HD HC HS
  have hb : (de != 0) = true := by rw [← hde]; simp [h2]
  obtain ⟨dr, hdr⟩ : ∃ dr, drawsErr xs.length ds = dr := ⟨_, rfl⟩
  rw [hdr] at HT HR
  have HQ := Lib.hid (fun (W : World) v (hW : Ints W v [de, dr]) => first_two v de dr W hW de (by show _ = _; rw [if_pos (by rw [← hde]; exact h2)]))
  clear h2 hde hdr
  obtain ⟨uo, uc, rfl, _, _⟩ := hu.open
  obtain ⟨vo, vc, rfl, _, _⟩ := hv.open
  have HD := Lib.hid HD; have HC := Lib.hid HC; have HT := Lib.hid HT; have HR := Lib.hid HR; have HS := Lib.hid HS
  clear hu hv hsh
  go_enter Tryd.func3, Tryd.ntmps3
  go_wp2_with fail
  refine HF.out.mono ?_
  rintro e w0 ⟨rfl, X0⟩
  go_wp2_with fail
  refine (HN.out _).mono ?_
  rintro e w' ⟨rfl, rfl⟩
  go_wp2_with fail
  go_loop [43] (fun i => i = .int .i64 0) (fun i => 0)
  case atStart => rfl
  case round =>
    subst hrel
    go_wp2_with fail
    refine (HD.out _ (by exact X0)).mono ?_
    rintro e w' ⟨rfl, rfl⟩
    go_wp2_with fail
    refine (HC.out _ (by exact X0)).mono ?_
    rintro e w' ⟨rfl, rfl⟩
    go_wp2_with fail
    refine (HT.out _ (by exact X0)).mono ?_
    rintro e w' ⟨rfl, rfl⟩
    go_wp2_with fail
    refine (HR.out _ (by exact X0)).mono ?_
    rintro e w' ⟨rfl, rfl⟩
    go_wp2_with fail
    refine (HR.out _ (by exact X0)).mono ?_
    rintro e w' ⟨rfl, rfl⟩
    go_wp2_with fail
    refine (HQ.out _ _ (by exact lit_ints _ _ [de, dr] (by simp))).mono ?_
    rintro e w' ⟨rfl, rfl⟩
    go_wp2_with fail
    refine (HS.out _ (by exact X0.alloc _)).mono ?_
    rintro e w' ⟨rfl, rfl⟩
    go_wp2_with fail
    go_ret
    exact ⟨rfl, X0.alloc _⟩

set_option maxHeartbeats 1600000 in
set_option maxRecDepth 100000 in
theorem shuffles_lo_e2 (u v : Value) (xs ds : List Int) (n : Int) (w : World) (hsh : w.ShapedOpen Tryd.prog) (hu : Ints w u xs) (hv : Ints w v ds) (hl : xs.length + 512 ≤ 17592186044416) (h1 : n < 0) (h2 : deckErr xs = 0) (h3 : drawsErr xs.length ds ≠ 0) :
    Calls Tryd.prog 3 #[u, v, .int .i64 n] w fun e w' => e = .returned (.bool true) ∧ Ext w w' := by
  have HF := Lib.hid (cardsFact_any w hsh)
  have HN := Lib.hid (fun W => fresh_err n W (.inl h1))
  have HD := fun (W : World) (hW : Ext w W) => deckError_any u xs W (hu.ext hW)
  have HC := fun (W : World) (hW : Ext w W) => check_any u xs W (hu.ext hW)
  have HT := fun (W : World) (hW : Ext w W) => fits_any xs.length v ds W (hv.ext hW) (by omega)
  have HR := fun (W : World) (hW : Ext w W) => drawsError_any xs.length v ds W (hv.ext hW) (by omega)
  have HS := fun (W : World) (hW : Ext w W) => shuffle_err2 u v xs ds W (hu.ext hW) (hv.ext hW) h2 h3
  rw [h2] at HD HC
  obtain ⟨dr, hdr⟩ : ∃ dr, drawsErr xs.length ds = dr := ⟨_, rfl⟩
  rw [hdr] at HT HR HS
  have hb : (dr != 0) = true := by rw [← hdr]; simp [h3]
  have HQ := Lib.hid (fun (W : World) v (hW : Ints W v [0, dr]) => first_two v 0 dr W hW dr rfl)
  clear h2 h3 hdr
  obtain ⟨uo, uc, rfl, _, _⟩ := hu.open
  obtain ⟨vo, vc, rfl, _, _⟩ := hv.open
  have HD := Lib.hid HD; have HC := Lib.hid HC; have HT := Lib.hid HT; have HR := Lib.hid HR; have HS := Lib.hid HS
  clear hu hv hsh
  go_enter Tryd.func3, Tryd.ntmps3
  go_wp2_with fail
  refine HF.out.mono ?_
  rintro e w0 ⟨rfl, X0⟩
  go_wp2_with fail
  refine (HN.out _).mono ?_
  rintro e w' ⟨rfl, rfl⟩
  go_wp2_with fail
  go_loop [43] (fun i => i = .int .i64 0) (fun i => 0)
  case atStart => rfl
  case round =>
    subst hrel
    go_wp2_with fail
    refine (HD.out _ (by exact X0)).mono ?_
    rintro e w' ⟨rfl, rfl⟩
    go_wp2_with fail
    refine (HC.out _ (by exact X0)).mono ?_
    rintro e w' ⟨rfl, rfl⟩
    go_wp2_with fail
    refine (HT.out _ (by exact X0)).mono ?_
    rintro e w' ⟨rfl, rfl⟩
    go_wp2_with fail
    refine (HR.out _ (by exact X0)).mono ?_
    rintro e w' ⟨rfl, rfl⟩
    go_wp2_with fail
    refine (HR.out _ (by exact X0)).mono ?_
    rintro e w' ⟨rfl, rfl⟩
    go_wp2_with fail
    refine (HQ.out _ _ (by exact lit_ints _ _ [0, dr] (by simp))).mono ?_
    rintro e w' ⟨rfl, rfl⟩
    go_wp2_with fail
    refine (HS.out _ (by exact X0.alloc _)).mono ?_
    rintro e w' ⟨rfl, rfl⟩
    go_wp2_with fail
    go_ret
    exact ⟨rfl, X0.alloc _⟩

set_option maxHeartbeats 1600000 in
set_option maxRecDepth 100000 in
theorem shuffles_lo_ok (u v : Value) (xs ds : List Int) (n : Int) (w : World) (hsh : w.ShapedOpen Tryd.prog) (hu : Ints w u xs) (hv : Ints w v ds) (hl : xs.length + 512 ≤ 17592186044416) (h1 : n < 0) (h2 : deckErr xs = 0) (h3 : drawsErr xs.length ds = 0) :
    Calls Tryd.prog 3 #[u, v, .int .i64 n] w fun e w' => e = .returned (.bool true) ∧ Ext w w' := by
  have HF := Lib.hid (cardsFact_any w hsh)
  have HN := Lib.hid (fun W => fresh_err n W (.inl h1))
  have HD := fun (W : World) (hW : Ext w W) => deckError_any u xs W (hu.ext hW)
  have HC := fun (W : World) (hW : Ext w W) => check_any u xs W (hu.ext hW)
  have HT := fun (W : World) (hW : Ext w W) => fits_any xs.length v ds W (hv.ext hW) (by omega)
  have HR := fun (W : World) (hW : Ext w W) => drawsError_any xs.length v ds W (hv.ext hW) (by omega)
  have HS := fun (W : World) (hW : Ext w W) => shuffle_ok u v xs ds W (hu.ext hW) (hv.ext hW) h2 h3
  have HX := Lib.hid (fun (W : World) (hW : Ext w W) => shuffled_any u v xs ds W (hu.ext hW) (hv.ext hW) (deckErr_zero h2).1 h3)
  rw [h2] at HD HC
  rw [h3] at HT HR
  have HQ := Lib.hid (fun (W : World) v (hW : Ints W v [0, 0]) => first_two v 0 0 W hW 0 rfl)
  have h52 := (deckErr_zero h2).1
  obtain ⟨sh, hsh2⟩ : ∃ sh, Hid (shufF xs ds = sh) := ⟨_, rfl⟩
  clear h2 h3
  obtain ⟨uo, uc, rfl, _, _⟩ := hu.open
  obtain ⟨vo, vc, rfl, _, _⟩ := hv.open
  have HD := Lib.hid HD; have HC := Lib.hid HC; have HT := Lib.hid HT; have HR := Lib.hid HR; have HS := Lib.hid HS
  clear hu hv hsh
  go_enter Tryd.func3, Tryd.ntmps3
  go_wp2_with fail
  refine HF.out.mono ?_
  rintro e w0 ⟨rfl, X0⟩
  go_wp2_with fail
  refine (HN.out _).mono ?_
  rintro e w' ⟨rfl, rfl⟩
  go_wp2_with fail
  go_loop [43] (fun i => i = .int .i64 0) (fun i => 0)
  case atStart => rfl
  case round =>
    subst hrel
    go_wp2_with fail
    refine (HD.out _ (by exact X0)).mono ?_
    rintro e w' ⟨rfl, rfl⟩
    go_wp2_with fail
    refine (HC.out _ (by exact X0)).mono ?_
    rintro e w' ⟨rfl, rfl⟩
    go_wp2_with fail
    refine (HT.out _ (by exact X0)).mono ?_
    rintro e w' ⟨rfl, rfl⟩
    go_wp2_with fail
    refine (HR.out _ (by exact X0)).mono ?_
    rintro e w' ⟨rfl, rfl⟩
    go_wp2_with fail
    refine (HR.out _ (by exact X0)).mono ?_
    rintro e w' ⟨rfl, rfl⟩
    go_wp2_with fail
    refine (HQ.out _ _ (by exact lit_ints _ _ [0, 0] (by simp))).mono ?_
    rintro e w' ⟨rfl, rfl⟩
    go_wp2_with fail
    refine (HS.out _ (by exact X0.alloc _)).mono ?_
    rintro e w5 ⟨r, rfl, hO5, hx5⟩
    have X5 := (X0.alloc _).trans hx5
    rw [hsh2.out] at hO5
    have H5 := Lib.hid (own_rowOf (xs := sh) hO5 (by omega))
    clear hO5 hx5
    go_wp2_with fail
    refine (HX.out _ (by exact X5)).mono ?_
    rintro e w6 ⟨r2, rfl, hO6, hx6⟩
    rw [hsh2.out] at hO6
    go_wp2_with fail
    refine (equal_ints _ _ sh sh _ (H5.out.ext hx6) (own_rowOf (xs := sh) hO6 (by omega)) true (by simp [Hid])).mono ?_
    rintro e w7 ⟨rfl, hx7⟩
    go_wp2_with fail
    go_ret
    exact ⟨rfl, X5.trans (hx6.trans hx7)⟩

set_option maxHeartbeats 1600000 in
set_option maxRecDepth 100000 in
theorem shuffles_hi_e1 (u v : Value) (xs ds : List Int) (n : Int) (w : World) (hsh : w.ShapedOpen Tryd.prog) (hu : Ints w u xs) (hv : Ints w v ds) (hl : xs.length + 512 ≤ 17592186044416) (h0 : 0 ≤ n) (h1 : 52 < n) (h2 : deckErr xs ≠ 0) :
    Calls Tryd.prog 3 #[u, v, .int .i64 n] w fun e w' => e = .returned (.bool true) ∧ Ext w w' := by
  have HF := Lib.hid (cardsFact_any w hsh)
  have HN := Lib.hid (fun W => fresh_err n W (.inr h1))
  have HD := fun (W : World) (hW : Ext w W) => deckError_any u xs W (hu.ext hW)
  have HC := fun (W : World) (hW : Ext w W) => check_any u xs W (hu.ext hW)
  have HT := fun (W : World) (hW : Ext w W) => fits_any xs.length v ds W (hv.ext hW) (by omega)
  have HR := fun (W : World) (hW : Ext w W) => drawsError_any xs.length v ds W (hv.ext hW) (by omega)
  have HS := fun (W : World) (hW : Ext w W) => shuffle_err1 u v xs ds W (hu.ext hW) h2
  obtain ⟨de, hde⟩ : ∃ de, deckErr xs = de := ⟨_, rfl⟩
  rw [hde] at HD HC HS
  have hb : (de != 0) = true := by rw [← hde]; simp [h2]
  obtain ⟨dr, hdr⟩ : ∃ dr, drawsErr xs.length ds = dr := ⟨_, rfl⟩
  rw [hdr] at HT HR
  have HQ := Lib.hid (fun (W : World) v (hW : Ints W v [de, dr]) => first_two v de dr W hW de (by show _ = _; rw [if_pos (by rw [← hde]; exact h2)]))
  clear h2 hde hdr
  obtain ⟨uo, uc, rfl, _, _⟩ := hu.open
  obtain ⟨vo, vc, rfl, _, _⟩ := hv.open
  have HD := Lib.hid HD; have HC := Lib.hid HC; have HT := Lib.hid HT; have HR := Lib.hid HR; have HS := Lib.hid HS
  clear hu hv hsh
  go_enter Tryd.func3, Tryd.ntmps3
  go_wp2_with fail
  refine HF.out.mono ?_
  rintro e w0 ⟨rfl, X0⟩
  go_wp2_with fail
  refine (HN.out _).mono ?_
  rintro e w' ⟨rfl, rfl⟩
  go_wp2_with fail
  go_loop [43] (fun i => i = .int .i64 0) (fun i => 0)
  case atStart => rfl
  case round =>
    subst hrel
    go_wp2_with fail
    refine (HD.out _ (by exact X0)).mono ?_
    rintro e w' ⟨rfl, rfl⟩
    go_wp2_with fail
    refine (HC.out _ (by exact X0)).mono ?_
    rintro e w' ⟨rfl, rfl⟩
    go_wp2_with fail
    refine (HT.out _ (by exact X0)).mono ?_
    rintro e w' ⟨rfl, rfl⟩
    go_wp2_with fail
    refine (HR.out _ (by exact X0)).mono ?_
    rintro e w' ⟨rfl, rfl⟩
    go_wp2_with fail
    refine (HR.out _ (by exact X0)).mono ?_
    rintro e w' ⟨rfl, rfl⟩
    go_wp2_with fail
    refine (HQ.out _ _ (by exact lit_ints _ _ [de, dr] (by simp))).mono ?_
    rintro e w' ⟨rfl, rfl⟩
    go_wp2_with fail
    refine (HS.out _ (by exact X0.alloc _)).mono ?_
    rintro e w' ⟨rfl, rfl⟩
    go_wp2_with fail
    go_ret
    exact ⟨rfl, X0.alloc _⟩

set_option maxHeartbeats 1600000 in
set_option maxRecDepth 100000 in
theorem shuffles_hi_e2 (u v : Value) (xs ds : List Int) (n : Int) (w : World) (hsh : w.ShapedOpen Tryd.prog) (hu : Ints w u xs) (hv : Ints w v ds) (hl : xs.length + 512 ≤ 17592186044416) (h0 : 0 ≤ n) (h1 : 52 < n) (h2 : deckErr xs = 0) (h3 : drawsErr xs.length ds ≠ 0) :
    Calls Tryd.prog 3 #[u, v, .int .i64 n] w fun e w' => e = .returned (.bool true) ∧ Ext w w' := by
  have HF := Lib.hid (cardsFact_any w hsh)
  have HN := Lib.hid (fun W => fresh_err n W (.inr h1))
  have HD := fun (W : World) (hW : Ext w W) => deckError_any u xs W (hu.ext hW)
  have HC := fun (W : World) (hW : Ext w W) => check_any u xs W (hu.ext hW)
  have HT := fun (W : World) (hW : Ext w W) => fits_any xs.length v ds W (hv.ext hW) (by omega)
  have HR := fun (W : World) (hW : Ext w W) => drawsError_any xs.length v ds W (hv.ext hW) (by omega)
  have HS := fun (W : World) (hW : Ext w W) => shuffle_err2 u v xs ds W (hu.ext hW) (hv.ext hW) h2 h3
  rw [h2] at HD HC
  obtain ⟨dr, hdr⟩ : ∃ dr, drawsErr xs.length ds = dr := ⟨_, rfl⟩
  rw [hdr] at HT HR HS
  have hb : (dr != 0) = true := by rw [← hdr]; simp [h3]
  have HQ := Lib.hid (fun (W : World) v (hW : Ints W v [0, dr]) => first_two v 0 dr W hW dr rfl)
  clear h2 h3 hdr
  obtain ⟨uo, uc, rfl, _, _⟩ := hu.open
  obtain ⟨vo, vc, rfl, _, _⟩ := hv.open
  have HD := Lib.hid HD; have HC := Lib.hid HC; have HT := Lib.hid HT; have HR := Lib.hid HR; have HS := Lib.hid HS
  clear hu hv hsh
  go_enter Tryd.func3, Tryd.ntmps3
  go_wp2_with fail
  refine HF.out.mono ?_
  rintro e w0 ⟨rfl, X0⟩
  go_wp2_with fail
  refine (HN.out _).mono ?_
  rintro e w' ⟨rfl, rfl⟩
  go_wp2_with fail
  go_loop [43] (fun i => i = .int .i64 0) (fun i => 0)
  case atStart => rfl
  case round =>
    subst hrel
    go_wp2_with fail
    refine (HD.out _ (by exact X0)).mono ?_
    rintro e w' ⟨rfl, rfl⟩
    go_wp2_with fail
    refine (HC.out _ (by exact X0)).mono ?_
    rintro e w' ⟨rfl, rfl⟩
    go_wp2_with fail
    refine (HT.out _ (by exact X0)).mono ?_
    rintro e w' ⟨rfl, rfl⟩
    go_wp2_with fail
    refine (HR.out _ (by exact X0)).mono ?_
    rintro e w' ⟨rfl, rfl⟩
    go_wp2_with fail
    refine (HR.out _ (by exact X0)).mono ?_
    rintro e w' ⟨rfl, rfl⟩
    go_wp2_with fail
    refine (HQ.out _ _ (by exact lit_ints _ _ [0, dr] (by simp))).mono ?_
    rintro e w' ⟨rfl, rfl⟩
    go_wp2_with fail
    refine (HS.out _ (by exact X0.alloc _)).mono ?_
    rintro e w' ⟨rfl, rfl⟩
    go_wp2_with fail
    go_ret
    exact ⟨rfl, X0.alloc _⟩

set_option maxHeartbeats 1600000 in
set_option maxRecDepth 100000 in
theorem shuffles_hi_ok (u v : Value) (xs ds : List Int) (n : Int) (w : World) (hsh : w.ShapedOpen Tryd.prog) (hu : Ints w u xs) (hv : Ints w v ds) (hl : xs.length + 512 ≤ 17592186044416) (h0 : 0 ≤ n) (h1 : 52 < n) (h2 : deckErr xs = 0) (h3 : drawsErr xs.length ds = 0) :
    Calls Tryd.prog 3 #[u, v, .int .i64 n] w fun e w' => e = .returned (.bool true) ∧ Ext w w' := by
  have HF := Lib.hid (cardsFact_any w hsh)
  have HN := Lib.hid (fun W => fresh_err n W (.inr h1))
  have HD := fun (W : World) (hW : Ext w W) => deckError_any u xs W (hu.ext hW)
  have HC := fun (W : World) (hW : Ext w W) => check_any u xs W (hu.ext hW)
  have HT := fun (W : World) (hW : Ext w W) => fits_any xs.length v ds W (hv.ext hW) (by omega)
  have HR := fun (W : World) (hW : Ext w W) => drawsError_any xs.length v ds W (hv.ext hW) (by omega)
  have HS := fun (W : World) (hW : Ext w W) => shuffle_ok u v xs ds W (hu.ext hW) (hv.ext hW) h2 h3
  have HX := Lib.hid (fun (W : World) (hW : Ext w W) => shuffled_any u v xs ds W (hu.ext hW) (hv.ext hW) (deckErr_zero h2).1 h3)
  rw [h2] at HD HC
  rw [h3] at HT HR
  have HQ := Lib.hid (fun (W : World) v (hW : Ints W v [0, 0]) => first_two v 0 0 W hW 0 rfl)
  have h52 := (deckErr_zero h2).1
  obtain ⟨sh, hsh2⟩ : ∃ sh, Hid (shufF xs ds = sh) := ⟨_, rfl⟩
  clear h2 h3
  obtain ⟨uo, uc, rfl, _, _⟩ := hu.open
  obtain ⟨vo, vc, rfl, _, _⟩ := hv.open
  have HD := Lib.hid HD; have HC := Lib.hid HC; have HT := Lib.hid HT; have HR := Lib.hid HR; have HS := Lib.hid HS
  clear hu hv hsh
  go_enter Tryd.func3, Tryd.ntmps3
  go_wp2_with fail
  refine HF.out.mono ?_
  rintro e w0 ⟨rfl, X0⟩
  go_wp2_with fail
  refine (HN.out _).mono ?_
  rintro e w' ⟨rfl, rfl⟩
  go_wp2_with fail
  go_loop [43] (fun i => i = .int .i64 0) (fun i => 0)
  case atStart => rfl
  case round =>
    subst hrel
    go_wp2_with fail
    refine (HD.out _ (by exact X0)).mono ?_
    rintro e w' ⟨rfl, rfl⟩
    go_wp2_with fail
    refine (HC.out _ (by exact X0)).mono ?_
    rintro e w' ⟨rfl, rfl⟩
    go_wp2_with fail
    refine (HT.out _ (by exact X0)).mono ?_
    rintro e w' ⟨rfl, rfl⟩
    go_wp2_with fail
    refine (HR.out _ (by exact X0)).mono ?_
    rintro e w' ⟨rfl, rfl⟩
    go_wp2_with fail
    refine (HR.out _ (by exact X0)).mono ?_
    rintro e w' ⟨rfl, rfl⟩
    go_wp2_with fail
    refine (HQ.out _ _ (by exact lit_ints _ _ [0, 0] (by simp))).mono ?_
    rintro e w' ⟨rfl, rfl⟩
    go_wp2_with fail
    refine (HS.out _ (by exact X0.alloc _)).mono ?_
    rintro e w5 ⟨r, rfl, hO5, hx5⟩
    have X5 := (X0.alloc _).trans hx5
    rw [hsh2.out] at hO5
    have H5 := Lib.hid (own_rowOf (xs := sh) hO5 (by omega))
    clear hO5 hx5
    go_wp2_with fail
    refine (HX.out _ (by exact X5)).mono ?_
    rintro e w6 ⟨r2, rfl, hO6, hx6⟩
    rw [hsh2.out] at hO6
    go_wp2_with fail
    refine (equal_ints _ _ sh sh _ (H5.out.ext hx6) (own_rowOf (xs := sh) hO6 (by omega)) true (by simp [Hid])).mono ?_
    rintro e w7 ⟨rfl, hx7⟩
    go_wp2_with fail
    go_ret
    exact ⟨rfl, X5.trans (hx6.trans hx7)⟩

set_option maxHeartbeats 1600000 in
set_option maxRecDepth 100000 in
theorem shuffles_ok_e1 (u v : Value) (xs ds : List Int) (n : Nat) (w : World) (hsh : w.ShapedOpen Tryd.prog) (hu : Ints w u xs) (hv : Ints w v ds) (hl : xs.length + 512 ≤ 17592186044416) (h1 : n ≤ 52) (h2 : deckErr xs ≠ 0) :
    Calls Tryd.prog 3 #[u, v, .int .i64 n] w fun e w' => e = .returned (.bool true) ∧ Ext w w' := by
  have HF := Lib.hid (cardsFact_any w hsh)
  have HN := Lib.hid (fun W => fresh_ok n W h1)
  have HD := fun (W : World) (hW : Ext w W) => deckError_any u xs W (hu.ext hW)
  have HC := fun (W : World) (hW : Ext w W) => check_any u xs W (hu.ext hW)
  have HT := fun (W : World) (hW : Ext w W) => fits_any xs.length v ds W (hv.ext hW) (by omega)
  have HR := fun (W : World) (hW : Ext w W) => drawsError_any xs.length v ds W (hv.ext hW) (by omega)
  have HS := fun (W : World) (hW : Ext w W) => shuffle_err1 u v xs ds W (hu.ext hW) h2
  obtain ⟨de, hde⟩ : ∃ de, deckErr xs = de := ⟨_, rfl⟩
  rw [hde] at HD HC HS
  have hb : (de != 0) = true := by rw [← hde]; simp [h2]
  obtain ⟨dr, hdr⟩ : ∃ dr, drawsErr xs.length ds = dr := ⟨_, rfl⟩
  rw [hdr] at HT HR
  have HQ := Lib.hid (fun (W : World) v (hW : Ints W v [de, dr]) => first_two v de dr W hW de (by show _ = _; rw [if_pos (by rw [← hde]; exact h2)]))
  clear h2 hde hdr
  obtain ⟨uo, uc, rfl, _, _⟩ := hu.open
  obtain ⟨vo, vc, rfl, _, _⟩ := hv.open
  have HD := Lib.hid HD; have HC := Lib.hid HC; have HT := Lib.hid HT; have HR := Lib.hid HR; have HS := Lib.hid HS
  clear hu hv hsh
  go_enter Tryd.func3, Tryd.ntmps3
  go_wp2_with fail
  refine HF.out.mono ?_
  rintro e w0 ⟨rfl, X0⟩
  go_wp2_with fail
  refine (HN.out _).mono ?_
  rintro e w1 ⟨f, rfl, hO, hx1⟩
  obtain ⟨fo, fc, rfl, hfl, hfc⟩ := (own_rowOf (enc := Value.int .i64) (xs := freshI n) hO (by omega)).open
  rw [freshI_len] at *
  have X1 := X0.trans hx1
  have HFC := Lib.hid hfc
  have hnn : ((((n : Nat) : Int)) != (n : Int)) = false := by simp
  have hn0 : decide ((n : Int) < 0) = false := by simp
  have hn1 : decide (52 < (n : Int)) = false := by simp; omega
  have hn2 : decide (52 < n) = false := by simp; omega
  clear hO hx1 hfc X0
  go_wp2_with fail
  go_loop [43] (fun i => ∃ k : Nat, k ≤ n ∧ i = .int .i64 k) (fun i => n - (intOf i).toNat)
  case atStart => exact ⟨0, Nat.zero_le _, rfl⟩
  case round =>
    obtain ⟨k, hk, rfl⟩ := hrel
    by_cases hlt : k < n
    · obtain ⟨b, off, rfl, hcell⟩ := HFC.out.at (i := k) (x := (k : Int)) (by show _ = _; simp [freshI, hlt])
      have hkk : ((((k : Nat) : Int)) != (k : Int)) = false := by simp
      go_wp2_with fail
      go_round
      case rel => exact ⟨k + 1, by omega, by go_num⟩
      case measure => simp [intOf]; omega
    · go_wp2_with fail
      refine (HD.out _ (by exact X1)).mono ?_
      rintro e w' ⟨rfl, rfl⟩
      go_wp2_with fail
      refine (HC.out _ (by exact X1)).mono ?_
      rintro e w' ⟨rfl, rfl⟩
      go_wp2_with fail
      refine (HT.out _ (by exact X1)).mono ?_
      rintro e w' ⟨rfl, rfl⟩
      go_wp2_with fail
      refine (HR.out _ (by exact X1)).mono ?_
      rintro e w' ⟨rfl, rfl⟩
      go_wp2_with fail
      refine (HR.out _ (by exact X1)).mono ?_
      rintro e w' ⟨rfl, rfl⟩
      go_wp2_with fail
      refine (HQ.out _ _ (by exact lit_ints _ _ [de, dr] (by simp))).mono ?_
      rintro e w' ⟨rfl, rfl⟩
      go_wp2_with fail
      refine (HS.out _ (by exact X1.alloc _)).mono ?_
      rintro e w' ⟨rfl, rfl⟩
      go_wp2_with fail
      go_ret
      exact ⟨rfl, X1.alloc _⟩

set_option maxHeartbeats 1600000 in
set_option maxRecDepth 100000 in
theorem shuffles_ok_e2 (u v : Value) (xs ds : List Int) (n : Nat) (w : World) (hsh : w.ShapedOpen Tryd.prog) (hu : Ints w u xs) (hv : Ints w v ds) (hl : xs.length + 512 ≤ 17592186044416) (h1 : n ≤ 52) (h2 : deckErr xs = 0) (h3 : drawsErr xs.length ds ≠ 0) :
    Calls Tryd.prog 3 #[u, v, .int .i64 n] w fun e w' => e = .returned (.bool true) ∧ Ext w w' := by
  have HF := Lib.hid (cardsFact_any w hsh)
  have HN := Lib.hid (fun W => fresh_ok n W h1)
  have HD := fun (W : World) (hW : Ext w W) => deckError_any u xs W (hu.ext hW)
  have HC := fun (W : World) (hW : Ext w W) => check_any u xs W (hu.ext hW)
  have HT := fun (W : World) (hW : Ext w W) => fits_any xs.length v ds W (hv.ext hW) (by omega)
  have HR := fun (W : World) (hW : Ext w W) => drawsError_any xs.length v ds W (hv.ext hW) (by omega)
  have HS := fun (W : World) (hW : Ext w W) => shuffle_err2 u v xs ds W (hu.ext hW) (hv.ext hW) h2 h3
  rw [h2] at HD HC
  obtain ⟨dr, hdr⟩ : ∃ dr, drawsErr xs.length ds = dr := ⟨_, rfl⟩
  rw [hdr] at HT HR HS
  have hb : (dr != 0) = true := by rw [← hdr]; simp [h3]
  have HQ := Lib.hid (fun (W : World) v (hW : Ints W v [0, dr]) => first_two v 0 dr W hW dr rfl)
  clear h2 h3 hdr
  obtain ⟨uo, uc, rfl, _, _⟩ := hu.open
  obtain ⟨vo, vc, rfl, _, _⟩ := hv.open
  have HD := Lib.hid HD; have HC := Lib.hid HC; have HT := Lib.hid HT; have HR := Lib.hid HR; have HS := Lib.hid HS
  clear hu hv hsh
  go_enter Tryd.func3, Tryd.ntmps3
  go_wp2_with fail
  refine HF.out.mono ?_
  rintro e w0 ⟨rfl, X0⟩
  go_wp2_with fail
  refine (HN.out _).mono ?_
  rintro e w1 ⟨f, rfl, hO, hx1⟩
  obtain ⟨fo, fc, rfl, hfl, hfc⟩ := (own_rowOf (enc := Value.int .i64) (xs := freshI n) hO (by omega)).open
  rw [freshI_len] at *
  have X1 := X0.trans hx1
  have HFC := Lib.hid hfc
  have hnn : ((((n : Nat) : Int)) != (n : Int)) = false := by simp
  have hn0 : decide ((n : Int) < 0) = false := by simp
  have hn1 : decide (52 < (n : Int)) = false := by simp; omega
  have hn2 : decide (52 < n) = false := by simp; omega
  clear hO hx1 hfc X0
  go_wp2_with fail
  go_loop [43] (fun i => ∃ k : Nat, k ≤ n ∧ i = .int .i64 k) (fun i => n - (intOf i).toNat)
  case atStart => exact ⟨0, Nat.zero_le _, rfl⟩
  case round =>
    obtain ⟨k, hk, rfl⟩ := hrel
    by_cases hlt : k < n
    · obtain ⟨b, off, rfl, hcell⟩ := HFC.out.at (i := k) (x := (k : Int)) (by show _ = _; simp [freshI, hlt])
      have hkk : ((((k : Nat) : Int)) != (k : Int)) = false := by simp
      go_wp2_with fail
      go_round
      case rel => exact ⟨k + 1, by omega, by go_num⟩
      case measure => simp [intOf]; omega
    · go_wp2_with fail
      refine (HD.out _ (by exact X1)).mono ?_
      rintro e w' ⟨rfl, rfl⟩
      go_wp2_with fail
      refine (HC.out _ (by exact X1)).mono ?_
      rintro e w' ⟨rfl, rfl⟩
      go_wp2_with fail
      refine (HT.out _ (by exact X1)).mono ?_
      rintro e w' ⟨rfl, rfl⟩
      go_wp2_with fail
      refine (HR.out _ (by exact X1)).mono ?_
      rintro e w' ⟨rfl, rfl⟩
      go_wp2_with fail
      refine (HR.out _ (by exact X1)).mono ?_
      rintro e w' ⟨rfl, rfl⟩
      go_wp2_with fail
      refine (HQ.out _ _ (by exact lit_ints _ _ [0, dr] (by simp))).mono ?_
      rintro e w' ⟨rfl, rfl⟩
      go_wp2_with fail
      refine (HS.out _ (by exact X1.alloc _)).mono ?_
      rintro e w' ⟨rfl, rfl⟩
      go_wp2_with fail
      go_ret
      exact ⟨rfl, X1.alloc _⟩

set_option maxHeartbeats 1600000 in
set_option maxRecDepth 100000 in
theorem shuffles_ok_ok (u v : Value) (xs ds : List Int) (n : Nat) (w : World) (hsh : w.ShapedOpen Tryd.prog) (hu : Ints w u xs) (hv : Ints w v ds) (hl : xs.length + 512 ≤ 17592186044416) (h1 : n ≤ 52) (h2 : deckErr xs = 0) (h3 : drawsErr xs.length ds = 0) :
    Calls Tryd.prog 3 #[u, v, .int .i64 n] w fun e w' => e = .returned (.bool true) ∧ Ext w w' := by
  have HF := Lib.hid (cardsFact_any w hsh)
  have HN := Lib.hid (fun W => fresh_ok n W h1)
  have HD := fun (W : World) (hW : Ext w W) => deckError_any u xs W (hu.ext hW)
  have HC := fun (W : World) (hW : Ext w W) => check_any u xs W (hu.ext hW)
  have HT := fun (W : World) (hW : Ext w W) => fits_any xs.length v ds W (hv.ext hW) (by omega)
  have HR := fun (W : World) (hW : Ext w W) => drawsError_any xs.length v ds W (hv.ext hW) (by omega)
  have HS := fun (W : World) (hW : Ext w W) => shuffle_ok u v xs ds W (hu.ext hW) (hv.ext hW) h2 h3
  have HX := Lib.hid (fun (W : World) (hW : Ext w W) => shuffled_any u v xs ds W (hu.ext hW) (hv.ext hW) (deckErr_zero h2).1 h3)
  rw [h2] at HD HC
  rw [h3] at HT HR
  have HQ := Lib.hid (fun (W : World) v (hW : Ints W v [0, 0]) => first_two v 0 0 W hW 0 rfl)
  have h52 := (deckErr_zero h2).1
  obtain ⟨sh, hsh2⟩ : ∃ sh, Hid (shufF xs ds = sh) := ⟨_, rfl⟩
  clear h2 h3
  obtain ⟨uo, uc, rfl, _, _⟩ := hu.open
  obtain ⟨vo, vc, rfl, _, _⟩ := hv.open
  have HD := Lib.hid HD; have HC := Lib.hid HC; have HT := Lib.hid HT; have HR := Lib.hid HR; have HS := Lib.hid HS
  clear hu hv hsh
  go_enter Tryd.func3, Tryd.ntmps3
  go_wp2_with fail
  refine HF.out.mono ?_
  rintro e w0 ⟨rfl, X0⟩
  go_wp2_with fail
  refine (HN.out _).mono ?_
  rintro e w1 ⟨f, rfl, hO, hx1⟩
  obtain ⟨fo, fc, rfl, hfl, hfc⟩ := (own_rowOf (enc := Value.int .i64) (xs := freshI n) hO (by omega)).open
  rw [freshI_len] at *
  have X1 := X0.trans hx1
  have HFC := Lib.hid hfc
  have hnn : ((((n : Nat) : Int)) != (n : Int)) = false := by simp
  have hn0 : decide ((n : Int) < 0) = false := by simp
  have hn1 : decide (52 < (n : Int)) = false := by simp; omega
  have hn2 : decide (52 < n) = false := by simp; omega
  clear hO hx1 hfc X0
  go_wp2_with fail
  go_loop [43] (fun i => ∃ k : Nat, k ≤ n ∧ i = .int .i64 k) (fun i => n - (intOf i).toNat)
  case atStart => exact ⟨0, Nat.zero_le _, rfl⟩
  case round =>
    obtain ⟨k, hk, rfl⟩ := hrel
    by_cases hlt : k < n
    · obtain ⟨b, off, rfl, hcell⟩ := HFC.out.at (i := k) (x := (k : Int)) (by show _ = _; simp [freshI, hlt])
      have hkk : ((((k : Nat) : Int)) != (k : Int)) = false := by simp
      go_wp2_with fail
      go_round
      case rel => exact ⟨k + 1, by omega, by go_num⟩
      case measure => simp [intOf]; omega
    · go_wp2_with fail
      refine (HD.out _ (by exact X1)).mono ?_
      rintro e w' ⟨rfl, rfl⟩
      go_wp2_with fail
      refine (HC.out _ (by exact X1)).mono ?_
      rintro e w' ⟨rfl, rfl⟩
      go_wp2_with fail
      refine (HT.out _ (by exact X1)).mono ?_
      rintro e w' ⟨rfl, rfl⟩
      go_wp2_with fail
      refine (HR.out _ (by exact X1)).mono ?_
      rintro e w' ⟨rfl, rfl⟩
      go_wp2_with fail
      refine (HR.out _ (by exact X1)).mono ?_
      rintro e w' ⟨rfl, rfl⟩
      go_wp2_with fail
      refine (HQ.out _ _ (by exact lit_ints _ _ [0, 0] (by simp))).mono ?_
      rintro e w' ⟨rfl, rfl⟩
      go_wp2_with fail
      refine (HS.out _ (by exact X1.alloc _)).mono ?_
      rintro e w5 ⟨r, rfl, hO5, hx5⟩
      have X5 := (X1.alloc _).trans hx5
      rw [hsh2.out] at hO5
      have H5 := Lib.hid (own_rowOf (xs := sh) hO5 (by omega))
      clear hO5 hx5
      go_wp2_with fail
      refine (HX.out _ (by exact X5)).mono ?_
      rintro e w6 ⟨r2, rfl, hO6, hx6⟩
      rw [hsh2.out] at hO6
      go_wp2_with fail
      refine (equal_ints _ _ sh sh _ (H5.out.ext hx6) (own_rowOf (xs := sh) hO6 (by omega)) true (by simp [Hid])).mono ?_
      rintro e w7 ⟨rfl, hx7⟩
      go_wp2_with fail
      go_ret
      exact ⟨rfl, X5.trans (hx6.trans hx7)⟩
end Go.Proofs.YtllhgkacbpgemaaDoor
