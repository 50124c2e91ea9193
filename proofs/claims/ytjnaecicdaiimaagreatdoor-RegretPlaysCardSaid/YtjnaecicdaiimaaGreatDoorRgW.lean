/- the law RegretPlays -/
import Derived.Test.YtjnaecicdaiimaaGreatDoorRgV
namespace Go.Proofs.YtjnaecicdaiimaaGreatDoor
open Go.RowKit
set_option linter.unusedVariables false

theorem playQ_at {m : List (List ByteArray)} (hr : ∀ l ∈ m, l.length = wideL m) (h0 : 0 < m.length) (h1 : 0 < wideL m) (n : Nat) {t : Nat} {p : Int × Int} (h : (playQ m n)[t]? = some p) : p = bestP (numM m) m.length (wideL m) ((playQ m n).take t) := by
  have ht : t < n := by
    have := (List.getElem?_eq_some_iff.1 h).1
    unfold playQ at this
    rwa [playS_len] at this
  have h2 := playS_at (M := numM m) (nr := m.length) (nc := wideL m) (List.length_map ..) (numM_len hr) h0 h1 n [] t ht
  rw [sumsR_nil, sumsC_nil] at h2
  have h3 : (playQ m n)[t]? = some (bestP (numM m) m.length (wideL m) ([] ++ (playQ m n).take t)) := h2
  rw [h, List.nil_append] at h3
  exact Option.some.inj h3
theorem playQ_lt {m : List (List ByteArray)} (hr : ∀ l ∈ m, l.length = wideL m) (h0 : 0 < m.length) (h1 : 0 < wideL m) (n : Nat) : ∀ p ∈ playQ m n, ∃ x y : Nat, p = ((x : Int), (y : Int)) ∧ x < m.length ∧ y < wideL m := fun p hp => by
  obtain ⟨t, ht⟩ := List.mem_iff_getElem?.1 hp
  rw [playQ_at hr h0 h1 n ht]
  exact bestP_lt h0 h1 _

set_option maxHeartbeats 3200000 in
theorem regretPlays_walk (v : Value) (n : Int) (m : List (List ByteArray)) (w : World) (hv : Rows Value.string w v m) (hs : ∀ l ∈ m, ∀ s ∈ l, s.size ≤ 9223372036854775806) (htab : TabPow w) :
    Calls Tryz.prog 3 #[v, .int .i64 n] w fun e w' => e = .returned (.bool true) ∧ Ext w w' := by
  have H0 := regretFact_tab2 htab
  have H1 := Lib.hid (fun W (hx : Ext w W) => weight_any v m W (hv.ext hx))
  have H3 : ∀ q, gameE m = q → Hid (∀ W, Ext w W → Calls Tryz.prog 12 #[v] W fun e w' => e = .returned (.int .i64 q) ∧ Ext W w') := fun q hq W hx => gameError_any v m W (hv.ext hx) hs q hq
  have H5 : ∀ q, vastB 4 [m] = q → Hid (∀ v W, MatsV W v [m] → Calls Tryz.prog 13 #[.int .i64 4, v] W fun e w' => e = .returned (.bool q) ∧ Ext W w') := fun q hq v W h => vast_any v 4 [m] W h (by omega) (fun m2 hm r hr s h2 => by
    simp only [List.mem_singleton] at hm
    subst hm
    exact hs r hr s h2) q hq
  have HV := Lib.hid hv
  have HPE : ∀ q, playE m n = q → q ≠ 0 → Hid (∀ W, Ext w W → Calls Tryz.prog 11 #[v, .int .i64 n] W fun e w' => e = .returned (.tuple #[.slice none 0 0, .int .i64 q]) ∧ Ext W w') := fun q hq h W hx => by
    subst hq
    exact play_err v m n W (hv.ext hx) hs h
  have HPG : ∀ k : Nat, n = (k : Int) → gameE m = 0 → k ≤ 200 → Hid (∀ W, Ext w W → Calls Tryz.prog 11 #[v, .int .i64 (k : Int)] W fun e w' => ∃ u, e = .returned (.tuple #[u, .int .i64 0]) ∧ (Prs w' u (playQ m k) ∧ CapOk u) ∧ Ext W w') := fun k hk he h2 W hx => play_goC v m k W (hv.ext hx) hs he h2
  obtain ⟨us, hr, hul, hel⟩ := hv
  obtain ⟨ao, c, rfl, _, hlen, _, hc⟩ := hr
  by_cases he : gameE m = 0
  · by_cases h0 : n < 0
    · exact plays_err2 ao c us.length n w h0 H0 H1 (HPE 4 (by unfold playE; rw [if_neg (by simpa using he), if_pos (.inl h0)]) (by omega)) (H3 0 he)
    · by_cases h2 : 200 < n
      · exact plays_err3 ao c us.length n w (by omega) h2 H0 H1 (HPE 4 (by unfold playE; rw [if_neg (by simpa using he), if_pos (.inr h2)]) (by omega)) (H3 0 he)
      · obtain ⟨k, rfl⟩ : ∃ k : Nat, n = (k : Int) := ⟨n.toNat, by omega⟩
        have HG := HPG k rfl he (by omega)
        have HPL : Hid ((playQ m k).length = k) := by show _ = _; unfold playQ; rw [playS_len]
        cases hvb : vastB 4 [m] with
        | true => exact plays_vast ao c us.length k m (playQ m k) w HV (by omega) (by omega) HPL H0 H1 HG (H3 0 he) (H5 true hvb)
        | false =>
          by_cases h12 : 12 < k
          · exact plays_long ao c us.length k m (playQ m k) w HV (by omega) (by omega) (by omega) HPL H0 H1 HG (H3 0 he) (H5 false hvb)
          obtain ⟨hm5, hrow5⟩ := vast_rows hvb
          have hm := matOk_of hs he
          have hwp : 0 < wideL m := (gameE_zero he).2.2.1
          obtain ⟨u0, e1, _, _⟩ := get_lt (show 0 < us.length by rw [hul]; exact hm.pos)
          obtain ⟨l0, r1, _, _⟩ := get_lt (xs := m) (k := 0) hm.pos
          obtain ⟨b0, o0, rfl, hc1⟩ := hc 0 u0 e1.out
          have hwl : wideL m = l0.length := by unfold wideL; rw [List.headD_eq_head?_getD, List.head?_eq_getElem?, r1.out]; rfl
          obtain ⟨a0, c0, hrc0⟩ := row_cells HV.out r1.out
          have hrb : ∀ l ∈ m, ∀ s ∈ l, RB 12 (ratOf s) := fun l hl s h => ratOf_RB (hm.ok l hl s h).1 ((hrow5 l hl).2 s h) (by omega)
          have htx : ∀ l ∈ m, ∀ s ∈ l, ratT (ratOf s) = s := fun l hl s h => (text_ratT (hm.ok l hl s h).1).symm
          have rowget : ∀ x, x < m.length → ∃ lx, m[x]? = some lx ∧ lx.length = wideL m := fun x hx => ⟨_, List.getElem?_eq_getElem hx, hm.rect _ (List.getElem_mem hx)⟩
          refine plays_full b0 o0 c us.length (wideL m) k c0 a0 m (playQ m k) w HV (by omega) (by omega) (by omega) HPL (by rw [hul]; exact hm.pos) hwp (by have := hm.pos; omega) (by omega) (by have := hm.wide; omega) ?_ ?_ hrb htx ?_ ?_ H0 H1 HG (H3 0 he) (H5 false hvb)
          · intro W hx
            have := (hrc0 W hx).1
            rw [Nat.add_zero] at this
            rw [hwl]
            exact this
          · intro W x y hx hxx hy
            obtain ⟨lx, g1, g2⟩ := rowget x (by omega)
            obtain ⟨sx, g5, _, _⟩ := get_lt (xs := lx) (k := y) (by omega)
            obtain ⟨ax, cx, hx1⟩ := row_cells HV.out g1
            obtain ⟨k1, k2⟩ := hx1 W hx
            obtain ⟨bb, ob, rfl, k5⟩ := k2 y sx g5.out
            exact ⟨bb, ob, cx, lx, sx, g1, g5.out, k1, k5⟩
          · rw [hul]
            exact playQ_lt hm.rect hm.pos hwp k
          · intro t p hp
            rw [hul]
            exact playQ_at hm.rect hm.pos hwp k hp
  · exact plays_err1 ao c us.length n w (gameE m) (by simp [he]) (by simp [he]) (by simp) H0 H1 (HPE (gameE m) (by unfold playE; rw [if_pos he]) he) (H3 _ rfl)
end Go.Proofs.YtjnaecicdaiimaaGreatDoor
