/- walks of the package deal: Deck -/
import Derived.Test.YtllhgkacbpgemaaDeal9
namespace Go.Proofs.Ytllhgkacbpgemaa
open Go.RowKit

theorem info_row : (Try.prog.info? 22).map (fun i => (i.zero, i.size, i.bytes)) = some (some (.slice none 0 0), 1, 24) := by kernel_rfl
theorem ei_rows : EI Try.prog 30 22 (.slice none 0 0) 1 24 := ⟨Try.underlying30, info_parts info_row, rfl, by decide⟩

theorem freshI_deck (n : Nat) (h : n ≤ 52) : deckErr (freshI n) = 0 := by
  have : ∀ n : Fin 53, deckErr (freshI n.1) = 0 := by decide +kernel
  exact this ⟨n, by omega⟩

theorem fits_map (n : Nat) (f : Nat → Int) (hf : ∀ j, j < n - 1 → 0 ≤ f j ∧ f j < (n : Int) - j) : ∀ (m s : Nat), s + m = n - 1 → fitsGo n s ((List.range' s m).map f) = 0 := by
  intro m
  induction m with
  | zero => intro s _; rfl
  | succ m ih =>
    intro s hs
    have h := hf s (by omega)
    simp only [List.range'_succ, List.map_cons, fitsGo]
    rw [if_neg (by simp [inB]; omega)]
    exact ih (s + 1) (by omega)

theorem combF_draws (n : Nat) (xss : List (List Int)) : drawsErr n (combF n xss) = 0 := by
  have hl : (combF n xss).length = n - 1 := by simp [combF]
  unfold drawsErr
  rw [if_pos (by rw [hl]; omega)]
  have := fits_map n (combAt n xss) (fun j hj => combAt_bd n xss j hj) (n - 1) 0 (by omega)
  unfold combF
  rw [List.range_eq_range']
  exact this

set_option maxHeartbeats 800000 in
set_option maxRecDepth 100000 in
theorem deck_err (B tb pb : Nat) (n : Int) (l : List PV) (cheat : Int) (w : World) (hv : Tab w B tb pb n l cheat) (h : stageF l cheat ≠ 2) :
    Calls Try.prog 57 #[.pointer (some ⟨tb, 0, none⟩)] w fun e w' => e = .returned (.tuple #[.slice none 0 0, .int .i64 10]) ∧ Ext w w' := by
  have HS := Lib.hid (stage_any B tb pb n l cheat w hv)
  have hb : (stageF l cheat != 2) = true := by simp [h]
  clear hv h
  generalize stageF l cheat = q at *
  go_enter Try.func57, Try.ntmps57
  go_wp2_with fail
  refine HS.out.mono ?_
  rintro e w1 ⟨rfl, hx⟩
  go_wp2_with fail
  go_ret2
  exact ⟨rfl, hx⟩

theorem take_map_snoc {α β : Type} (f : α → β) {l : List α} {k : Nat} {x : α} (h : Hid (l.take (k + 1) = l.take k ++ [x])) : (l.take (k + 1)).map f = (l.take k).map f ++ [f x] := by rw [h.out]; simp

set_option maxHeartbeats 1600000 in
set_option maxRecDepth 100000 in
theorem deck_ok (B tb pb n : Nat) (l : List PV) (cheat : Int) (dss : List (List Int)) (w : World) (hv : Tab w B tb pb n l cheat) (h : stageF l cheat = 2) (h52 : n ≤ 52) (hd : dss.length = l.length)
    (hr : ∀ (i : Nat) (p : PV) (ds : List Int), l[i]? = some p → dss[i]? = some ds → Ints w p.draws ds) (hf : firstErr n dss = 0) :
    Calls Try.prog 57 #[.pointer (some ⟨tb, 0, none⟩)] w fun e w' => ∃ r, e = .returned (.tuple #[r, .int .i64 0]) ∧ w'.ownsRow w.heap.size 3 1 r n ((shufF (freshI n) (combF n dss)).map (Value.int .i64)) ∧ Ext w w' := by
  have HS := stage_any B tb pb n l cheat w hv
  rw [h] at HS
  have HS := Lib.hid HS
  have HV := Lib.hid hv
  have hlen := hv.len
  have HC := Lib.hid (fun (W : World) (v : Value) (hW : Rows (Value.int .i64) W v dss) => combine_ok n v dss W hW h52 (by omega) hf)
  have HF := Lib.hid (fun (W : World) => fresh_ok n W h52)
  have HH := Lib.hid (fun (W : World) (v u : Value) (h1 : Ints W v (freshI n)) (h2 : Ints W u (combF n dss)) => shuffle_ok v u (freshI n) (combF n dss) W h1 h2 (freshI_deck n h52) (by rw [freshI_len]; exact combF_draws n dss))
  have HR := Lib.hid hr
  have HD := Lib.hid hd
  clear hv h hr hf hd
  have hcl : Hid ((combF n dss).length = n - 1) := by simp [Hid, combF]
  generalize combF n dss = cb at *
  go_enter Try.func57, Try.ntmps57
  go_wp2_with fail
  refine HS.out.mono ?_
  rintro e w1 ⟨rfl, hx⟩
  have c1 := (HV.out.ext hx).c1
  go_wp2_with fail
  go_loopw [4, 19] (fun u i wr => ∃ (k : Nat), k ≤ l.length ∧ i = .int .i64 k ∧ Ext w wr ∧ wr.ownsRow w.heap.size 22 1 u k ((l.take k).map PV.draws)) (fun _ i _ => l.length - (intOf i).toNat)
  case atStart => exact ⟨0, Nat.zero_le _, rfl, hx, World.ownsRow_nil _ _ _ _⟩
  case round =>
    obtain ⟨k, hk, rfl, HX, HO⟩ := hrel
    have hsz := HX.size
    by_cases hlt : k < l.length
    · obtain ⟨p, h1, _, h3⟩ := get_lt hlt
      obtain ⟨c0, c1, c2, c3⟩ := (HV.out.ext HX).p h1
      have HT := Lib.hid (take_map_snoc PV.draws h3)
      obtain ⟨a, b, mk, da, dl, dc⟩ := p
      simp only [PV.draws] at c0 c1 c2 c3
      go_wp2_with (at_builtin; refine wp_app1 rfl rfl ei_rows (own_ext HO ((Ext.refl wr).alloc _)) rfl rfl (by simp) rfl (by omega) (by omega) (by simp; omega) ?_; intro v' w' hown hgrew)
      go_roundw
      case rel => exact ⟨k + 1, by omega, by go_num, hgrew.extNew (HX.alloc _) (own_ext HO ((Ext.refl wr).alloc _)) (Nat.le_refl _), by rw [HT.out]; exact hown⟩
      case measure => simp [intOf]; omega
    · obtain ⟨_, h2⟩ := get_ge hlt
      have hkl : k = l.length := by omega
      subst hkl
      rw [h2.out] at HO
      have hrows : Rows (Value.int .i64) wr _ dss := ⟨_, own_row HO (by omega), by simp [HD.out], fun i u xs a b => by
        simp only [List.getElem?_map, Option.map_eq_some_iff] at a
        obtain ⟨p, hp, rfl⟩ := a
        exact (HR.out i p xs hp b).ext HX⟩
      have HRW := Lib.hid hrows
      have c0 := (HV.out.ext HX).c0
      clear hrows HO
      go_wp2_with fail
      refine (HC.out _ _ HRW.out).mono ?_
      rintro e w2 ⟨u2, rfl, hO2, hx2⟩
      have e0 := hx2.cell c0
      go_wp2_with fail
      refine (HF.out _).mono ?_
      rintro e w3 ⟨u3, rfl, hO3, hx3⟩
      go_wp2_with fail
      refine (HH.out _ _ _ (own_rowOf hO3 (by omega)) (own_rowOf (own_ext hO2 hx3) (by omega))).mono ?_
      rintro e w4 ⟨u4, rfl, hO4, hx4⟩
      go_wp2_with fail
      go_ret2
      have hall := HX.trans (hx2.trans (hx3.trans hx4))
      exact ⟨_, rfl, by rw [freshI_len] at hO4; exact own_mono hO4 (HX.trans (hx2.trans hx3)).size, hall⟩
end Go.Proofs.Ytllhgkacbpgemaa
