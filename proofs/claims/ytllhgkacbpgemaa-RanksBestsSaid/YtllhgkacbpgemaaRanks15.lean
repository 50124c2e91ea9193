/- the walk of Winners -/
import Derived.Test.YtllhgkacbpgemaaRanks14
import Derived.Test.YtllhgkacbpgemaaSlC
namespace Go.Proofs.Ytllhgkacbpgemaa
open Go.RowKit
set_option linter.unusedVariables false

def firstErr : List (List Int) → Int
  | [] => 0
  | h :: t => if handErr h = 0 then firstErr t else handErr h
def winErr (hs : List (List Int)) : Int := if 10 < hs.length then 2 else if firstErr hs = 0 then deckErr hs.flatten else firstErr hs
def winStep (st : List Nat × Int) (i : Nat) (v : Int) : List Nat × Int := if st.2 < v then ([i], v) else if v = st.2 then (st.1 ++ [i], st.2) else st
def winGo : Nat → List (List Int) → List Nat × Int → List Nat × Int
  | _, [], st => st
  | i, h :: t, st => winGo (i + 1) t (winStep st i (valueR h))
def winF (hs : List (List Int)) : List Nat := (winGo 0 hs ([], -1)).1

theorem firstErr_zero : ∀ {hs : List (List Int)}, firstErr hs = 0 → ∀ h ∈ hs, handErr h = 0
  | [], _, h, hm => by cases hm
  | x :: t, e, h, hm => by
    rw [firstErr] at e
    split at e
    · rename_i h0
      rcases List.mem_cons.1 hm with rfl | hm
      · exact h0
      · exact firstErr_zero e h hm
    · rename_i h0; exact absurd e h0
theorem lsum_five : ∀ {hs : List (List Int)}, (∀ h ∈ hs, handErr h = 0) → lsum hs = 5 * hs.length
  | [], _ => rfl
  | x :: t, h => by
    have h1 := (handOk (h x (by simp))).len
    have h2 := lsum_five (hs := t) (fun y hy => h y (by simp [hy]))
    simp only [lsum, List.map_cons, List.sum_cons, List.length_cons] at h2 ⊢
    omega
def WinPost (hs : List (List Int)) (w : World) (e : Ending) (w' : World) : Prop :=
  ∃ u, e = .returned (.tuple #[u, .int .i64 (winErr hs)]) ∧ Ext w w' ∧ ((winErr hs ≠ 0 ∧ u = .slice none 0 0) ∨ (winErr hs = 0 ∧ RowOf encN w' u (winF hs)))
theorem win_err {hs : List (List Int)} {w w' : World} {q : Int} (h : winErr hs = q) (hq : q ≠ 0) (hx : Ext w w') : WinPost hs w (.returned (.tuple #[.slice none 0 0, .int .i64 q])) w' := by
  subst h; exact ⟨_, rfl, hx, .inl ⟨hq, rfl⟩⟩

set_option maxHeartbeats 3200000 in
set_option maxRecDepth 100000 in
theorem winners_any (v : Value) (hs : List (List Int)) (w : World) (hv : Rows (Value.int .i64) w v hs) : Calls Try.prog 41 #[v] w (WinPost hs w) := by
  have HRV := Lib.hid hv
  obtain ⟨us, ⟨ao, c, rfl, _, hlen, _, hc⟩, hl, hr⟩ := hv
  have HCC := Lib.hid hc
  have HR := Lib.hid hr
  have HL := Lib.hid hl
  have HCK := Lib.hid (fun (k : Nat) (u : Value) (xs : List Int) (W : World) (hu : Hid (us[k]? = some u)) (hx : Hid (hs[k]? = some xs)) (hW : Ext w W) => ranksCheck_any u xs W ((hr k u xs hu.out hx.out).ext hW) _ rfl)
  rw [hl] at hlen HRV ⊢
  clear hc hr hl
  by_cases h10 : 10 < hs.length
  · have HE : Hid (winErr hs = 2) := by show _ = _; rw [winErr, if_pos h10]
    have h10i : (10 : Int) < (hs.length : Int) := by omega
    go_enter Try.func41, Try.ntmps41
    go_wp2_with fail
    go_ret2
    exact win_err HE.out (by decide) (Ext.refl w)
  · have HE : Hid (winErr hs = if firstErr hs = 0 then deckErr hs.flatten else firstErr hs) := by show _ = _; rw [winErr, if_neg h10]
    have h10i : (hs.length : Int) ≤ 10 := by omega
    go_enter Try.func41, Try.ntmps41
    go_wp2_with fail
    go_loop [18] (fun i => ∃ (k : Nat), k ≤ hs.length ∧ i = .int .i64 k ∧ Hid (firstErr (hs.drop k) = firstErr hs)) (fun i => hs.length - (intOf i).toNat)
    case atStart => exact ⟨0, Nat.zero_le _, rfl, rfl⟩
    case round =>
      obtain ⟨k, hk, rfl, HI⟩ := hrel
      by_cases hlt : k < hs.length
      · obtain ⟨x, x1, x2, _⟩ := get_lt hlt
        obtain ⟨u, u1, _, _⟩ := get_lt (xs := us) (k := k) (by rw [HL.out]; exact hlt)
        obtain ⟨b, off, rfl, hcell⟩ := HCC.out k u u1.out
        have HK := HCK.out k u x w u1 x1 (Ext.refl w)
        have hi := HI.out
        rw [x2.out, firstErr] at hi
        obtain ⟨z, hz⟩ : ∃ z, handErr x = z := ⟨_, rfl⟩
        rw [hz] at hi HK
        have HK := Lib.hid HK
        by_cases h0 : z = 0
        · subst h0
          rw [if_pos rfl] at hi
          have HI2 := Lib.hid hi
          clear hi hz
          go_wp2_with fail
          refine HK.out.mono ?_
          rintro e w' ⟨rfl, rfl⟩
          go_wp2_with fail
          go_round
          case rel => exact ⟨k + 1, by omega, by go_num, HI2⟩
          case measure => simp [intOf]; omega
        · rw [if_neg h0] at hi
          have hE2 : winErr hs = z := by rw [HE.out, ← hi, if_neg h0]
          have HE2 := Lib.hid hE2
          have HN := Lib.hid h0
          have hb : (z != 0) = true := by simp [h0]
          clear hi hz h0 hE2
          go_wp2_with fail
          refine HK.out.mono ?_
          rintro e w' ⟨rfl, rfl⟩
          go_wp2_with fail
          go_ret2
          exact win_err HE2.out HN.out (Ext.refl w)
      · obtain ⟨h1, _⟩ := get_ge hlt
        have hf0 : firstErr hs = 0 := by rw [← HI.out, h1.out]; rfl
        have hall := firstErr_zero hf0
        have hE2 : winErr hs = deckErr hs.flatten := by rw [HE.out, if_pos hf0]
        have hls := lsum_five hall
        have HCO := Lib.hid (concat_ints _ hs w HRV.out (by omega))
        have hlf := flatten_len hs
        have HLS := Lib.hid hls
        have HLF := Lib.hid hlf
        have HALL := Lib.hid hall
        clear hf0 hall hls hlf
        obtain ⟨d, hd⟩ : ∃ d, Hid (deckErr hs.flatten = d) := ⟨_, rfl⟩
        rw [hd.out] at hE2
        have HE2 := Lib.hid hE2
        clear hE2 HE
        go_wp2_with fail
        refine HCO.out.mono ?_
        rintro e w1 ⟨r, rfl, hO, hx1⟩
        have HK := check_any r hs.flatten w1 (own_rowOf (enc := Value.int .i64) (xs := hs.flatten) (by exact hO) (by have := HLS.out; omega))
        rw [hd.out] at HK
        have HK := Lib.hid HK
        clear hO
        go_wp2_with fail
        refine HK.out.mono ?_
        rintro e w' ⟨rfl, rfl⟩
        by_cases h0 : d = 0
        · subst h0
          go_wp2_with fail
          go_loopw [8, 9, 36] (fun v m i wr => ∃ (k : Nat) (st : List Nat × Int), k ≤ hs.length ∧ i = .int .i64 k ∧ m = .int .i64 st.2 ∧ Ext w1 wr ∧ wr.ownsRow w1.heap.size 3 1 v st.1.length (st.1.map encN) ∧ st.1.length ≤ k ∧ Hid (winGo k (hs.drop k) st = winGo 0 hs ([], -1))) (fun _ _ i _ => hs.length - (intOf i).toNat)
          case atStart => exact ⟨0, ([], -1), Nat.zero_le _, rfl, rfl, Ext.refl _, World.ownsRow_nil _ _ _ _, Nat.zero_le _, rfl⟩
          case round =>
            obtain ⟨k, ⟨out, m⟩, hk, rfl, rfl, HX, HO, hol, HI⟩ := hrel
            have HOU := Lib.hid HO
            have hsz := HX.size
            simp only at HOU hol
            clear HO
            by_cases hlt2 : k < hs.length
            · obtain ⟨x, x1, x2, _⟩ := get_lt hlt2
              obtain ⟨u, u1, _, _⟩ := get_lt (xs := us) (k := k) (by rw [HL.out]; exact hlt2)
              obtain ⟨b, off, rfl, hcell0⟩ := HCC.out k u u1.out
              have hcell := (hx1.trans HX).cell hcell0
              have hh := handOk (HALL.out x (List.mem_of_getElem? x1.out))
              obtain ⟨q, hq⟩ : ∃ q, Hid (valueR x = q) := ⟨_, rfl⟩
              have HV := Lib.hid (valueOf_any u x wr ((HR.out k u x u1.out x1.out).ext (hx1.trans HX)) hh.rng (by rw [hh.len]; omega) (hand_law hh).2.1 q (by show _ = _; rw [(hand_law hh).2.2.2]; exact hq.out))
              have hi := HI.out
              rw [x2.out, winGo, hq.out, winStep] at hi
              simp only at hi
              clear hcell0 hh
              by_cases hgt : m < q
              · rw [if_pos hgt] at hi
                have HI2 := Lib.hid hi
                clear hi
                go_wp2_with fail
                refine HV.out.mono ?_
                rintro e w2 ⟨rfl, hx2⟩
                have X2 := HX.trans hx2
                have hsz2 := X2.size
                go_wp2_with fail
                go_roundw
                case rel => exact ⟨k + 1, ([k], q), by omega, by go_num, rfl, X2.alloc _, own_mono (own_lit1 w2 (.int .i64 k) 3) hsz2, by simp, HI2.out⟩
                case measure => simp [intOf]; omega
              · rw [if_neg hgt] at hi
                have hle : q ≤ m := by omega
                by_cases heq : q = m
                · subst heq
                  rw [if_pos rfl] at hi
                  have HI2 := Lib.hid hi
                  clear hi hgt
                  go_wp2_with fail
                  refine HV.out.mono ?_
                  rintro e w2 ⟨rfl, hx2⟩
                  have X2 := HX.trans hx2
                  have hsz2 := X2.size
                  have HO2 := Lib.hid (own_ext HOU.out hx2)
                  have hqq : (q == q) = true := by simp
                  go_wp2_with (at_builtin; refine wp_app1 rfl rfl ei_ints HO2.out rfl rfl rfl rfl (by omega) (by omega) (by omega) ?_; intro v' w' hown hgrew)
                  go_roundw
                  case rel => exact ⟨k + 1, (out ++ [k], q), by omega, by go_num, rfl, hgrew.extNew X2 HO2.out (Nat.le_refl _), by simpa using hown, by simp; omega, HI2.out⟩
                  case measure => simp [intOf]; omega
                · rw [if_neg heq] at hi
                  have HI2 := Lib.hid hi
                  have hqm : (q == m) = false := by rw [beq_eq_false_iff_ne]; exact heq
                  clear hi hgt heq
                  go_wp2_with fail
                  refine HV.out.mono ?_
                  rintro e w2 ⟨rfl, hx2⟩
                  have X2 := HX.trans hx2
                  go_wp2_with fail
                  go_roundw
                  case rel => exact ⟨k + 1, (out, m), by omega, by go_num, rfl, X2, own_ext HOU.out hx2, by simp; omega, HI2.out⟩
                  case measure => simp [intOf]; omega
            · obtain ⟨h2, _⟩ := get_ge hlt2
              have hw : winF hs = out := by rw [winF, ← HI.out, h2.out]; rfl
              have HRO := Lib.hid (own_rowOf (enc := encN) (xs := out) HOU.out (by omega))
              have HW := Lib.hid hw
              clear hw
              go_wp2_with fail
              go_ret2
              exact ⟨_, by rw [HE2.out]; rfl, hx1.trans HX, .inr ⟨HE2.out, by rw [HW.out]; exact HRO.out⟩⟩
        · have hb : (d != 0) = true := by simp [h0]
          have HN := Lib.hid h0
          clear h0
          go_wp2_with fail
          go_ret2
          exact win_err HE2.out HN.out hx1
end Go.Proofs.Ytllhgkacbpgemaa
