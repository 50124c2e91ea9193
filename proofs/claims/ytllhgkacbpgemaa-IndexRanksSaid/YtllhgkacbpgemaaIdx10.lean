/- walks: the law IndexRanks -/
import Derived.Test.YtllhgkacbpgemaaIdx9
namespace Go.Proofs.Ytllhgkacbpgemaa
open Go.RowKit

/-- the closure that compares with the placement in the box -/
theorem same_any (B : Nat) (u cv : Value) (ys xs : List Int) (W : World) (hu : Ints W u ys) (hc : W.cell? ⟨B, 0, none⟩ = some cv) (hv : Ints W cv xs) (q : Bool) (hq : Hid (decide (ys = xs) = q)) :
    Calls Try.prog 21 #[u, .pointer (some ⟨B, 0, none⟩)] W fun e W' => e = .returned (.bool q) ∧ Ext W W' := by
  have HD := Lib.hid (equal_ints u cv ys xs W hu hv q hq)
  obtain ⟨ao, c, rfl, _, _⟩ := hv.open
  clear hv hu
  go_enter Try.func21, Try.ntmps21
  go_wp2_with fail
  refine HD.out.mono ?_
  rintro e w' ⟨rfl, hx⟩
  go_wp2_with fail
  go_ret
  exact ⟨rfl, hx⟩

theorem idxF_at (ps : List Bool) (r : Nat) (hr : ps[r]? = some true) (hlt : ∀ j, j < r → ps[j]? ≠ some true) (k : Int) : idxF id ps k = k + r := by
  induction ps generalizing r k with
  | nil => simp at hr
  | cons p ps ih =>
    cases r with
    | zero => simp at hr; subst hr; simp [idxF]
    | succ r =>
      have h0 := hlt 0 (by omega)
      have hp : p = false := by cases p <;> simp at h0 ⊢
      subst hp
      simp only [idxF, id]
      have := ih r (by simpa using hr) (fun j hj => by have := hlt (j + 1) (by omega); simpa using this) (k + 1)
      simp only [Bool.false_eq_true, if_false]
      rw [this]; omega

theorem ofN_inj {a b : List Nat} (h : ofN a = ofN b) : a = b := by
  have := congrArg (List.map Int.toNat) h
  simpa [ofN, List.map_map, Function.comp_def] using this

theorem own_ints {w : World} {B : Nat} {e : TypeId} {v : Value} {n : Nat} {xs : List Nat} (h : w.ownsRow B e 1 v n (xs.map fun (n : Nat) => Value.int .i64 n)) (hn : n ≤ 17592186044416) : Ints w v (ofN xs) := ints_ofN (own_nats h hn)

set_option maxHeartbeats 2000000 in
set_option maxRecDepth 100000 in
theorem law_ranks_err (v : Value) (cells : List Int) (n : Int) (w : World) (h1 : Ints w v cells) (hce : cellsErr cells ≠ 0) :
    Calls Try.prog 4 #[v, .int .i64 n] w fun e w' => e = .returned (.bool true) ∧ Ext w w' := by
  have C1 := Lib.hid (fun W h => Rank_err v cells W h hce)
  have N1 := Lib.hid (fun W h => Next_err v cells W h hce)
  have K1 := Lib.hid (fun W h => cellsError_any v cells W h)
  have hn1 : (cellsErr cells != 0) = true := by simp [hce]
  have hn2 : (cellsErr cells == 0) = false := by simp [hce]
  generalize cellsErr cells = q1 at *
  clear hce
  have H1 := Lib.hid h1
  obtain ⟨ao, c, rfl, hlen, hc⟩ := h1.open
  clear h1
  have hx0 := (Ext.refl w).alloc (.cells #[.slice ao cells.length c] 22)
  obtain ⟨w0, hw0⟩ : ∃ w0, Hid (w.alloc (.cells #[.slice ao cells.length c] 22) = w0) := ⟨_, rfl⟩
  have hbx : w0.cell? ⟨w.heap.size, 0, none⟩ = some (.slice ao cells.length c) := by rw [← hw0.out]; simp [World.cell?_alloc_new]
  rw [hw0.out] at hx0
  have HF := Lib.hid (indexFact_any w0)
  go_enter Try.func4, Try.ntmps4
  go_wp2_with fail
  rw [hw0.out]
  refine HF.out.mono ?_
  rintro e w1 ⟨rfl, x1⟩
  have b1 := x1.cell hbx
  go_wp2_with fail
  refine (C1.out _ (H1.out.ext (hx0.trans x1))).mono ?_
  rintro e w2 ⟨rfl, x2⟩
  have b2 := x2.cell b1
  go_wp2_with fail
  refine (N1.out _ (H1.out.ext (hx0.trans (x1.trans x2)))).mono ?_
  rintro e w3 ⟨rfl, x3⟩
  have b3 := x3.cell b2
  go_wp2_with fail
  refine (K1.out _ (H1.out.ext (hx0.trans (x1.trans (x2.trans x3))))).mono ?_
  rintro e w4 ⟨rfl, x4⟩
  go_wp2_with fail
  go_ret
  exact ⟨rfl, hx0.trans (x1.trans (x2.trans (x3.trans x4)))⟩


theorem rankF_facts (ns : List Nat) (hf : Fit ns) (R : Nat) (hR : Hid (rankF (cntN 7 ns) ns = R)) :
    R < waysN (cntN 7 ns) ∧ (plF ns.length (cntN 7 ns))[R]? = some ns ∧ ∀ j, j < R → (plF ns.length (cntN 7 ns))[j]? ≠ some ns := by
  have hs := cntN_sum 7 ns hf.1
  have h := plF_all ns.length (cntN 7 ns) hs
  have h1 := h.2.1 ns (has_cnt 7 ns hf.1)
  rw [hR.out] at h1
  refine ⟨h1.2, h1.1, fun j hj hc => ?_⟩
  obtain ⟨xs, hx, hr⟩ := h.2.2 j (by omega)
  have h2 := (h.2.1 xs hx).1
  rw [hr, hc] at h2
  have := Option.some.inj h2
  subst this
  rw [hR.out] at hr
  omega

set_option maxHeartbeats 4000000 in
set_option maxRecDepth 100000 in
theorem law_ranks_long_last (v : Value) (ns : List Nat) (n : Int) (w : World) (hv : Nats w v ns) (hf : Fit ns) (h6 : 6 < ns.length) (hns : ns ≠ []) (hpw : (ofN ns).Pairwise (· ≥ ·)) :
    Calls Try.prog 4 #[v, .int .i64 n] w fun e w' => e = .returned (.bool true) ∧ Ext w w' := by
  have C1 := Lib.hid (fun W h => Rank_ok v ns W h hf)
  have K1 := fun W h => cellsError_any v (ofN ns) W h
  rw [fit_err hf] at K1
  have K1 := Lib.hid K1
  have N1 := Lib.hid (fun W h => Next_ok v (ofN ns) W h (fit_err hf) (by simpa [ofN] using hns))
  have H1 := Lib.hid hv
  have HF7 := Lib.hid hf
  have hR := rank_bd 7 ns hf.1 hf.2
  have hl16 := hf.2
  obtain ⟨R, HR⟩ : ∃ R, Hid (rankF (cntN 7 ns) ns = R) := ⟨_, rfl⟩
  rw [HR.out] at C1 hR
  have hla := rank_desc 7 ns hf.1 (by rw [ofN, List.pairwise_map] at hpw; exact hpw.imp (fun h => by omega))
  rw [HR.out] at hla
  have HLA := Lib.hid hla; clear hla hns
  obtain ⟨ao, c, rfl, hlen, hc⟩ := hv.open
  clear hv hf
  have hx0 := (Ext.refl w).alloc (.cells #[.slice ao ns.length c] 22)
  obtain ⟨w0, hw0⟩ : ∃ w0, Hid (w.alloc (.cells #[.slice ao ns.length c] 22) = w0) := ⟨_, rfl⟩
  have hbx : w0.cell? ⟨w.heap.size, 0, none⟩ = some (.slice ao ns.length c) := by rw [← hw0.out]; simp [World.cell?_alloc_new]
  rw [hw0.out] at hx0
  have HFa := Lib.hid (indexFact_any w0)
  go_enter Try.func4, Try.ntmps4
  go_wp2_with fail
  rw [hw0.out]
  refine HFa.out.mono ?_
  rintro e w1 ⟨rfl, x1⟩
  have b1 := x1.cell hbx
  have X1 := hx0.trans x1
  go_wp2_with fail
  refine (C1.out _ (H1.out.ext X1)).mono ?_
  rintro e w2 ⟨rfl, x2⟩
  have b2 := x2.cell b1
  have X2 := X1.trans x2
  clear b1 x1 x2 hbx
  go_wp2_with fail
  refine (N1.out _ (ints_ofN (H1.out.ext X2))).mono ?_
  rintro e w3 ⟨hN, x3⟩
  have hN2 : e = .returned (.tuple #[.slice none 0 0, .int .i64 8]) := by
    rcases hN with ⟨h, _⟩ | ⟨u, ys, _, _, hnp⟩
    · exact h
    · exfalso
      obtain ⟨ms, rfl, hms, hrk⟩ := nextP_rank ns HF7.out.1 ys hnp
      have h1 := ((plF_all _ _ rfl).2.1 ms hms).2
      have h2 := HLA.out
      have h3 := HR.out
      omega
  subst hN2
  clear hN
  have b3 := x3.cell b2
  have X3 := X2.trans x3
  clear b2 x3 hpw
  go_wp2_with fail
  refine (K1.out _ (ints_ofN (H1.out.ext X3))).mono ?_
  rintro e w4 ⟨rfl, x4⟩
  have b4 := x4.cell b3
  have X4 := X3.trans x4
  clear b3 x4
  go_wp2_with fail
  go_ret
  exact ⟨rfl, X4⟩

set_option maxHeartbeats 4000000 in
set_option maxRecDepth 100000 in
theorem law_ranks_long_more (v : Value) (ns : List Nat) (n : Int) (w : World) (hv : Nats w v ns) (hf : Fit ns) (h6 : 6 < ns.length) (hns : ns ≠ []) (hpw : ¬ (ofN ns).Pairwise (· ≥ ·)) :
    Calls Try.prog 4 #[v, .int .i64 n] w fun e w' => e = .returned (.bool true) ∧ Ext w w' := by
  have C1 := Lib.hid (fun W h => Rank_ok v ns W h hf)
  have K1 := fun W h => cellsError_any v (ofN ns) W h
  rw [fit_err hf] at K1
  have K1 := Lib.hid K1
  have N1 := Lib.hid (fun W h => Next_ok v (ofN ns) W h (fit_err hf) (by simpa [ofN] using hns))
  have H1 := Lib.hid hv
  have HF7 := Lib.hid hf
  have hR := rank_bd 7 ns hf.1 hf.2
  have hl16 := hf.2
  obtain ⟨R, HR⟩ : ∃ R, Hid (rankF (cntN 7 ns) ns = R) := ⟨_, rfl⟩
  rw [HR.out] at C1 hR
  obtain ⟨ao, c, rfl, hlen, hc⟩ := hv.open
  clear hv hf
  have hx0 := (Ext.refl w).alloc (.cells #[.slice ao ns.length c] 22)
  obtain ⟨w0, hw0⟩ : ∃ w0, Hid (w.alloc (.cells #[.slice ao ns.length c] 22) = w0) := ⟨_, rfl⟩
  have hbx : w0.cell? ⟨w.heap.size, 0, none⟩ = some (.slice ao ns.length c) := by rw [← hw0.out]; simp [World.cell?_alloc_new]
  rw [hw0.out] at hx0
  have HFa := Lib.hid (indexFact_any w0)
  go_enter Try.func4, Try.ntmps4
  go_wp2_with fail
  rw [hw0.out]
  refine HFa.out.mono ?_
  rintro e w1 ⟨rfl, x1⟩
  have b1 := x1.cell hbx
  have X1 := hx0.trans x1
  go_wp2_with fail
  refine (C1.out _ (H1.out.ext X1)).mono ?_
  rintro e w2 ⟨rfl, x2⟩
  have b2 := x2.cell b1
  have X2 := X1.trans x2
  clear b1 x1 x2 hbx
  go_wp2_with fail
  refine (N1.out _ (ints_ofN (H1.out.ext X2))).mono ?_
  rintro e w3 ⟨hN, x3⟩
  obtain ⟨ux, ms, rfl, hux, hms, hmr⟩ : ∃ ux ms, e = .returned (.tuple #[ux, .int .i64 0]) ∧ Nats w3 ux ms ∧ Has (cntN 7 ns) ms ∧ rankF (cntN 7 ns) ms = R + 1 := by
    rcases hN with ⟨_, h⟩ | ⟨u, ys, h1, h2, hnp⟩
    · exact absurd h hpw
    · obtain ⟨ms, rfl, hms, hrk⟩ := nextP_rank ns HF7.out.1 ys hnp
      exact ⟨u, ms, h1, nats_of h2, hms, by rw [hrk, HR.out]⟩
  have HMR := Lib.hid hmr
  clear hN hmr
  have b3 := x3.cell b2
  have X3 := X2.trans x3
  clear b2 x3 hpw
  go_wp2_with fail
  refine (K1.out _ (ints_ofN (H1.out.ext X3))).mono ?_
  rintro e w4 ⟨rfl, x4⟩
  have b4 := x4.cell b3
  have X4 := X3.trans x4
  have hux4 := hux.ext x4
  clear hux
  clear b3 x4
  go_wp2_with fail
  go_ret
  exact ⟨rfl, X4⟩

set_option maxHeartbeats 4000000 in
set_option maxRecDepth 100000 in
theorem law_ranks_ok_neg_nil (v : Value) (ns : List Nat) (n : Int) (w : World) (hv : Nats w v ns) (hf : Fit ns) (h6 : ns.length ≤ 6) (hn : n < 0) (hns : ns = []) :
    Calls Try.prog 4 #[v, .int .i64 n] w fun e w' => e = .returned (.bool true) ∧ Ext w w' := by
  have C1 := Lib.hid (fun W h => Rank_ok v ns W h hf)
  have K1 := fun W h => cellsError_any v (ofN ns) W h
  rw [fit_err hf] at K1
  have K1 := Lib.hid K1
  have N1 := Lib.hid (fun W (h : Ints W v (ofN ns)) => Next_nil v W (by subst hns; exact h))
  have H1 := Lib.hid hv
  have HF7 := Lib.hid hf
  have hR := rank_bd 7 ns hf.1 hf.2
  have hl16 := hf.2
  obtain ⟨R, HR⟩ : ∃ R, Hid (rankF (cntN 7 ns) ns = R) := ⟨_, rfl⟩
  rw [HR.out] at C1 hR
  have hla := rank_desc 7 ns hf.1 (by rw [hns]; exact .nil)
  rw [HR.out] at hla
  have HLA := Lib.hid hla; clear hla hns
  obtain ⟨ao, c, rfl, hlen, hc⟩ := hv.open
  clear hv hf
  have hx0 := (Ext.refl w).alloc (.cells #[.slice ao ns.length c] 22)
  obtain ⟨w0, hw0⟩ : ∃ w0, Hid (w.alloc (.cells #[.slice ao ns.length c] 22) = w0) := ⟨_, rfl⟩
  have hbx : w0.cell? ⟨w.heap.size, 0, none⟩ = some (.slice ao ns.length c) := by rw [← hw0.out]; simp [World.cell?_alloc_new]
  rw [hw0.out] at hx0
  have HFa := Lib.hid (indexFact_any w0)
  go_enter Try.func4, Try.ntmps4
  go_wp2_with fail
  rw [hw0.out]
  refine HFa.out.mono ?_
  rintro e w1 ⟨rfl, x1⟩
  have b1 := x1.cell hbx
  have X1 := hx0.trans x1
  go_wp2_with fail
  refine (C1.out _ (H1.out.ext X1)).mono ?_
  rintro e w2 ⟨rfl, x2⟩
  have b2 := x2.cell b1
  have X2 := X1.trans x2
  clear b1 x1 x2 hbx
  go_wp2_with fail
  refine (N1.out _ (ints_ofN (H1.out.ext X2))).mono ?_
  rintro e w3 ⟨rfl, x3⟩
  have b3 := x3.cell b2
  have X3 := X2.trans x3
  clear b2 x3
  go_wp2_with fail
  refine (K1.out _ (ints_ofN (H1.out.ext X3))).mono ?_
  rintro e w4 ⟨rfl, x4⟩
  have b4 := x4.cell b3
  have X4 := X3.trans x4
  clear b3 x4
  obtain ⟨W0, HW0⟩ : ∃ W0, Hid (w4 = W0) := ⟨_, rfl⟩
  have hok : cellsOk (ofN ns) := (cellsErr_zero (fit_err HF7.out)).1
  have hcc := ((ints_ofN (H1.out.ext X4)).open)
  obtain ⟨ao', c', heq, _, hcc⟩ := hcc
  have hol : (ofN ns).length = ns.length := by simp [ofN]
  simp only [hol, Value.slice.injEq] at heq
  obtain ⟨rfl, _, rfl⟩ := heq
  have HOL := Lib.hid hol; clear hol
  have hmk : ∀ W, (Instr.makeSlice 22 (.int .i64 7) (.int .i64 7)).run Try.prog W = .ok (.slice (some ⟨W.heap.size, 0, none⟩) 7 7) (W.alloc (.cells #[.int .i64 0, .int .i64 0, .int .i64 0, .int .i64 0, .int .i64 0, .int .i64 0, .int .i64 0] 3)) := fun _ => by kernel_rfl
  have HRE := rankF_facts ns HF7.out R HR
  have hlt4 : w.heap.size < w4.heap.size := World.block_lt_of_cell? w4 _ b4
  go_wp2_with fail
  go_loopw [56] (fun i wr => ∃ k : Nat, k ≤ ns.length ∧ i = .int .i64 k ∧ Ext w4 wr ∧ wr.ownsRow w4.heap.size 3 1 (.slice (some ⟨w4.heap.size, 0, none⟩) 7 7) 7 ((cnts ((ofN ns).take k)).map (Value.int .i64))) (fun i _ => ns.length - (intOf i).toNat)
  case atStart => exact ⟨0, Nat.zero_le _, rfl, (Ext.refl _).alloc _, own_made w4 (.int .i64 0) 3 7 (by decide) _ rfl⟩
  case round =>
    obtain ⟨k, hk, rfl, HX, HO⟩ := hrel
    by_cases hlt : k < ns.length
    · obtain ⟨x, h1, h2, h3⟩ := get_lt (xs := ofN ns) (k := k) (by rw [HOL.out]; exact hlt)
      obtain ⟨b, off, rfl, _⟩ := hcc.at h1
      have hcell := (hcc.ext HX).at' h1
      obtain ⟨hx0, hx6⟩ := hok x (List.mem_of_getElem? h1.out)
      obtain ⟨q, hq, hq0, hq1, hq2⟩ := cnts_at ((ofN ns).take k) x ⟨hx0, hx6⟩
      have hql : q ≤ 17592186044416 := by have : ((ofN ns).take k).length ≤ k := List.length_take_le _ _; omega
      clear hq1
      have hcx := own_cell HO (j := x.toNat) (x := .int .i64 q) (by simp [Hid, hq.out])
      have hfx := HO.frozenAt x.toNat
      have hst := HO.stored x.toNat (.int .i64 (q + 1))
      go_wp2_with fail
      go_roundw
      case rel => exact ⟨k + 1, by omega, by go_num, HX.setCell (Nat.le_refl _) _, by
        rw [h3.out, cnts_snoc, hq2.out, List.map_set]; exact hst.1⟩
      case measure => simp [intOf]; omega
    · obtain rfl : k = ns.length := by omega
      rw [← HOL.out, List.take_length, cnts_ofN, ofN_map] at HO
      have X5 := X4.trans HX
      have b5 := HX.cell b4
      have hcn := own_nats HO (by decide)
      have hsum := cntN_sum 7 ns HF7.out.1
      have HP := Lib.hid (placements_any ns.length _ (cntN 7 ns) _ hcn (by rw [cntN_len]; exact Nat.le_refl _) hsum (by omega))
      have hN := (plF_all _ _ hsum).1
      obtain ⟨N, HN⟩ : ∃ N, Hid (waysN (cntN 7 ns) = N) := ⟨_, rfl⟩
      rw [HN.out] at hN HRE
      have hw7 : fac (cntN 7 ns).sum ≤ fac 7 := fac_mono (by omega)
      have hw77 : fac 7 = 5040 := by decide
      have hwl := waysN_le (cntN 7 ns)
      rw [HN.out] at hwl
      have hNb : N ≤ 5040 := by omega
      have HNL := Lib.hid hN
      have HSU := Lib.hid hsum
      clear hw7 hw77 hwl hN hsum HO
      have hRN := HRE.1
      have HRE2 := Lib.hid HRE.2; clear HRE
      go_wp2_with fail
      refine HP.out.mono ?_
      rintro e w6 ⟨u, rfl, us, hus, hrs, x6⟩
      have hul : us.length = N := by
        have := hrs.len
        simp only [List.length_map, HNL.out] at this; exact this
      have hrow := own_row hus (by omega)
      have HUL := Lib.hid hul
      have b6 := x6.cell b5
      have X6 := X5.trans x6
      have E6 := HX.trans x6
      have hcn6 := hcn.ext x6
      clear b5 x6 X5 hul hus hcn
      have hps : ∀ (i : Nat) (u : Value) (ys : List Nat), us[i]? = some u → (plF ns.length (cntN 7 ns))[i]? = some ys → Ints w6 u (ofN ys) := by
        intro i u ys h1 h2
        have := (hrs.row i u (ys.map encN) h1 (by simp [h2])).1.1
        unfold Ints RowOf; rw [ofN_map]; exact this
      have HPS := Lib.hid hps; clear hps hrs
      have HIF := Lib.hid (indexFunc_rows u us ((plF ns.length (cntN 7 ns)).map fun ys => decide (ofN ys = ofN ns)) 21 #[.pointer (some ⟨w.heap.size, 0, none⟩)] w6 hrow (by rw [List.length_map, HNL.out, HUL.out]) (fun _ _ => by kernel_rfl)
        (fun i u q W h1 h2 hx => by
          simp only [List.getElem?_map, Option.map_eq_some_iff] at h2
          obtain ⟨ys, h3, h4⟩ := h2
          exact same_any w.heap.size u _ (ofN ys) (ofN ns) W ((HPS.out i u ys h1 h3).ext hx) (hx.cell b6) (ints_ofN (H1.out.ext (X6.trans hx))) q h4))
      have hat : idxF id ((plF ns.length (cntN 7 ns)).map fun ys => decide (ofN ys = ofN ns)) 0 = (R : Int) := by
        have h0 := idxF_at ((plF ns.length (cntN 7 ns)).map fun ys => decide (ofN ys = ofN ns)) R (by simp [HRE2.out.1]) (fun j hj h => by
          simp only [List.getElem?_map, Option.map_eq_some_iff] at h
          obtain ⟨ys, h3, h4⟩ := h
          have h5 := ofN_inj (of_decide_eq_true h4)
          subst h5
          exact HRE2.out.2 j hj h3) 0
        rw [h0]; omega
      have HIF2 := HIF.out
      rw [hat] at HIF2
      have HIF3 := Lib.hid HIF2
      clear HIF HIF2 hat
      obtain ⟨ao3, c3, rfl, _, _, _, hcr⟩ := id hrow
      go_wp2_with fail
      refine HIF3.out.mono ?_
      rintro e w7 ⟨rfl, x7⟩
      have X7 := X6.trans x7
      have hcn7 := hcn6.ext x7
      have hrow7 := hrow.ext x7
      clear HIF3 hcn6 b6
      have hR1 : R + 1 = N := by rw [← HN.out]; exact HLA.out
      have hR2 : us.length ≤ R + 1 := by rw [HUL.out]; omega
      have w7e : Ext w7 w7 := Ext.refl _
      obtain ⟨w8, e8⟩ : ∃ w8, w8 = w7 := ⟨_, rfl⟩
      subst e8
      have X8 := X7; have hcn8 := hcn7; have hrow8 := hrow7
      clear hR1 hcn7 hrow7 X7
      have HUr := Lib.hid (fun W h => Unrank_range (.slice (some ⟨w4.heap.size, 0, none⟩) 7 7) (cntN 7 ns) n W h ⟨cntN_len _ _, by rw [HSU.out]; exact hl16⟩ (.inl hn))
      go_wp2_with fail
      refine (HUr.out _ hcn8).mono ?_
      rintro e w9 ⟨rfl, x9⟩
      go_wp2_with fail
      go_ret
      exact ⟨rfl, X8.trans x9⟩

set_option maxHeartbeats 4000000 in
set_option maxRecDepth 100000 in
theorem law_ranks_ok_neg_last (v : Value) (ns : List Nat) (n : Int) (w : World) (hv : Nats w v ns) (hf : Fit ns) (h6 : ns.length ≤ 6) (hn : n < 0) (hns : ns ≠ []) (hpw : (ofN ns).Pairwise (· ≥ ·)) :
    Calls Try.prog 4 #[v, .int .i64 n] w fun e w' => e = .returned (.bool true) ∧ Ext w w' := by
  have C1 := Lib.hid (fun W h => Rank_ok v ns W h hf)
  have K1 := fun W h => cellsError_any v (ofN ns) W h
  rw [fit_err hf] at K1
  have K1 := Lib.hid K1
  have N1 := Lib.hid (fun W h => Next_ok v (ofN ns) W h (fit_err hf) (by simpa [ofN] using hns))
  have H1 := Lib.hid hv
  have HF7 := Lib.hid hf
  have hR := rank_bd 7 ns hf.1 hf.2
  have hl16 := hf.2
  obtain ⟨R, HR⟩ : ∃ R, Hid (rankF (cntN 7 ns) ns = R) := ⟨_, rfl⟩
  rw [HR.out] at C1 hR
  have hla := rank_desc 7 ns hf.1 (by rw [ofN, List.pairwise_map] at hpw; exact hpw.imp (fun h => by omega))
  rw [HR.out] at hla
  have HLA := Lib.hid hla; clear hla hns
  obtain ⟨ao, c, rfl, hlen, hc⟩ := hv.open
  clear hv hf
  have hx0 := (Ext.refl w).alloc (.cells #[.slice ao ns.length c] 22)
  obtain ⟨w0, hw0⟩ : ∃ w0, Hid (w.alloc (.cells #[.slice ao ns.length c] 22) = w0) := ⟨_, rfl⟩
  have hbx : w0.cell? ⟨w.heap.size, 0, none⟩ = some (.slice ao ns.length c) := by rw [← hw0.out]; simp [World.cell?_alloc_new]
  rw [hw0.out] at hx0
  have HFa := Lib.hid (indexFact_any w0)
  go_enter Try.func4, Try.ntmps4
  go_wp2_with fail
  rw [hw0.out]
  refine HFa.out.mono ?_
  rintro e w1 ⟨rfl, x1⟩
  have b1 := x1.cell hbx
  have X1 := hx0.trans x1
  go_wp2_with fail
  refine (C1.out _ (H1.out.ext X1)).mono ?_
  rintro e w2 ⟨rfl, x2⟩
  have b2 := x2.cell b1
  have X2 := X1.trans x2
  clear b1 x1 x2 hbx
  go_wp2_with fail
  refine (N1.out _ (ints_ofN (H1.out.ext X2))).mono ?_
  rintro e w3 ⟨hN, x3⟩
  have hN2 : e = .returned (.tuple #[.slice none 0 0, .int .i64 8]) := by
    rcases hN with ⟨h, _⟩ | ⟨u, ys, _, _, hnp⟩
    · exact h
    · exfalso
      obtain ⟨ms, rfl, hms, hrk⟩ := nextP_rank ns HF7.out.1 ys hnp
      have h1 := ((plF_all _ _ rfl).2.1 ms hms).2
      have h2 := HLA.out
      have h3 := HR.out
      omega
  subst hN2
  clear hN
  have b3 := x3.cell b2
  have X3 := X2.trans x3
  clear b2 x3 hpw
  go_wp2_with fail
  refine (K1.out _ (ints_ofN (H1.out.ext X3))).mono ?_
  rintro e w4 ⟨rfl, x4⟩
  have b4 := x4.cell b3
  have X4 := X3.trans x4
  clear b3 x4
  obtain ⟨W0, HW0⟩ : ∃ W0, Hid (w4 = W0) := ⟨_, rfl⟩
  have hok : cellsOk (ofN ns) := (cellsErr_zero (fit_err HF7.out)).1
  have hcc := ((ints_ofN (H1.out.ext X4)).open)
  obtain ⟨ao', c', heq, _, hcc⟩ := hcc
  have hol : (ofN ns).length = ns.length := by simp [ofN]
  simp only [hol, Value.slice.injEq] at heq
  obtain ⟨rfl, _, rfl⟩ := heq
  have HOL := Lib.hid hol; clear hol
  have hmk : ∀ W, (Instr.makeSlice 22 (.int .i64 7) (.int .i64 7)).run Try.prog W = .ok (.slice (some ⟨W.heap.size, 0, none⟩) 7 7) (W.alloc (.cells #[.int .i64 0, .int .i64 0, .int .i64 0, .int .i64 0, .int .i64 0, .int .i64 0, .int .i64 0] 3)) := fun _ => by kernel_rfl
  have HRE := rankF_facts ns HF7.out R HR
  have hlt4 : w.heap.size < w4.heap.size := World.block_lt_of_cell? w4 _ b4
  go_wp2_with fail
  go_loopw [56] (fun i wr => ∃ k : Nat, k ≤ ns.length ∧ i = .int .i64 k ∧ Ext w4 wr ∧ wr.ownsRow w4.heap.size 3 1 (.slice (some ⟨w4.heap.size, 0, none⟩) 7 7) 7 ((cnts ((ofN ns).take k)).map (Value.int .i64))) (fun i _ => ns.length - (intOf i).toNat)
  case atStart => exact ⟨0, Nat.zero_le _, rfl, (Ext.refl _).alloc _, own_made w4 (.int .i64 0) 3 7 (by decide) _ rfl⟩
  case round =>
    obtain ⟨k, hk, rfl, HX, HO⟩ := hrel
    by_cases hlt : k < ns.length
    · obtain ⟨x, h1, h2, h3⟩ := get_lt (xs := ofN ns) (k := k) (by rw [HOL.out]; exact hlt)
      obtain ⟨b, off, rfl, _⟩ := hcc.at h1
      have hcell := (hcc.ext HX).at' h1
      obtain ⟨hx0, hx6⟩ := hok x (List.mem_of_getElem? h1.out)
      obtain ⟨q, hq, hq0, hq1, hq2⟩ := cnts_at ((ofN ns).take k) x ⟨hx0, hx6⟩
      have hql : q ≤ 17592186044416 := by have : ((ofN ns).take k).length ≤ k := List.length_take_le _ _; omega
      clear hq1
      have hcx := own_cell HO (j := x.toNat) (x := .int .i64 q) (by simp [Hid, hq.out])
      have hfx := HO.frozenAt x.toNat
      have hst := HO.stored x.toNat (.int .i64 (q + 1))
      go_wp2_with fail
      go_roundw
      case rel => exact ⟨k + 1, by omega, by go_num, HX.setCell (Nat.le_refl _) _, by
        rw [h3.out, cnts_snoc, hq2.out, List.map_set]; exact hst.1⟩
      case measure => simp [intOf]; omega
    · obtain rfl : k = ns.length := by omega
      rw [← HOL.out, List.take_length, cnts_ofN, ofN_map] at HO
      have X5 := X4.trans HX
      have b5 := HX.cell b4
      have hcn := own_nats HO (by decide)
      have hsum := cntN_sum 7 ns HF7.out.1
      have HP := Lib.hid (placements_any ns.length _ (cntN 7 ns) _ hcn (by rw [cntN_len]; exact Nat.le_refl _) hsum (by omega))
      have hN := (plF_all _ _ hsum).1
      obtain ⟨N, HN⟩ : ∃ N, Hid (waysN (cntN 7 ns) = N) := ⟨_, rfl⟩
      rw [HN.out] at hN HRE
      have hw7 : fac (cntN 7 ns).sum ≤ fac 7 := fac_mono (by omega)
      have hw77 : fac 7 = 5040 := by decide
      have hwl := waysN_le (cntN 7 ns)
      rw [HN.out] at hwl
      have hNb : N ≤ 5040 := by omega
      have HNL := Lib.hid hN
      have HSU := Lib.hid hsum
      clear hw7 hw77 hwl hN hsum HO
      have hRN := HRE.1
      have HRE2 := Lib.hid HRE.2; clear HRE
      go_wp2_with fail
      refine HP.out.mono ?_
      rintro e w6 ⟨u, rfl, us, hus, hrs, x6⟩
      have hul : us.length = N := by
        have := hrs.len
        simp only [List.length_map, HNL.out] at this; exact this
      have hrow := own_row hus (by omega)
      have HUL := Lib.hid hul
      have b6 := x6.cell b5
      have X6 := X5.trans x6
      have E6 := HX.trans x6
      have hcn6 := hcn.ext x6
      clear b5 x6 X5 hul hus hcn
      have hps : ∀ (i : Nat) (u : Value) (ys : List Nat), us[i]? = some u → (plF ns.length (cntN 7 ns))[i]? = some ys → Ints w6 u (ofN ys) := by
        intro i u ys h1 h2
        have := (hrs.row i u (ys.map encN) h1 (by simp [h2])).1.1
        unfold Ints RowOf; rw [ofN_map]; exact this
      have HPS := Lib.hid hps; clear hps hrs
      have HIF := Lib.hid (indexFunc_rows u us ((plF ns.length (cntN 7 ns)).map fun ys => decide (ofN ys = ofN ns)) 21 #[.pointer (some ⟨w.heap.size, 0, none⟩)] w6 hrow (by rw [List.length_map, HNL.out, HUL.out]) (fun _ _ => by kernel_rfl)
        (fun i u q W h1 h2 hx => by
          simp only [List.getElem?_map, Option.map_eq_some_iff] at h2
          obtain ⟨ys, h3, h4⟩ := h2
          exact same_any w.heap.size u _ (ofN ys) (ofN ns) W ((HPS.out i u ys h1 h3).ext hx) (hx.cell b6) (ints_ofN (H1.out.ext (X6.trans hx))) q h4))
      have hat : idxF id ((plF ns.length (cntN 7 ns)).map fun ys => decide (ofN ys = ofN ns)) 0 = (R : Int) := by
        have h0 := idxF_at ((plF ns.length (cntN 7 ns)).map fun ys => decide (ofN ys = ofN ns)) R (by simp [HRE2.out.1]) (fun j hj h => by
          simp only [List.getElem?_map, Option.map_eq_some_iff] at h
          obtain ⟨ys, h3, h4⟩ := h
          have h5 := ofN_inj (of_decide_eq_true h4)
          subst h5
          exact HRE2.out.2 j hj h3) 0
        rw [h0]; omega
      have HIF2 := HIF.out
      rw [hat] at HIF2
      have HIF3 := Lib.hid HIF2
      clear HIF HIF2 hat
      obtain ⟨ao3, c3, rfl, _, _, _, hcr⟩ := id hrow
      go_wp2_with fail
      refine HIF3.out.mono ?_
      rintro e w7 ⟨rfl, x7⟩
      have X7 := X6.trans x7
      have hcn7 := hcn6.ext x7
      have hrow7 := hrow.ext x7
      clear HIF3 hcn6 b6
      have hR1 : R + 1 = N := by rw [← HN.out]; exact HLA.out
      have hR2 : us.length ≤ R + 1 := by rw [HUL.out]; omega
      have w7e : Ext w7 w7 := Ext.refl _
      obtain ⟨w8, e8⟩ : ∃ w8, w8 = w7 := ⟨_, rfl⟩
      subst e8
      have X8 := X7; have hcn8 := hcn7; have hrow8 := hrow7
      clear hR1 hcn7 hrow7 X7
      have HUr := Lib.hid (fun W h => Unrank_range (.slice (some ⟨w4.heap.size, 0, none⟩) 7 7) (cntN 7 ns) n W h ⟨cntN_len _ _, by rw [HSU.out]; exact hl16⟩ (.inl hn))
      go_wp2_with fail
      refine (HUr.out _ hcn8).mono ?_
      rintro e w9 ⟨rfl, x9⟩
      go_wp2_with fail
      go_ret
      exact ⟨rfl, X8.trans x9⟩

set_option maxHeartbeats 4000000 in
set_option maxRecDepth 100000 in
theorem law_ranks_ok_neg_more (v : Value) (ns : List Nat) (n : Int) (w : World) (hv : Nats w v ns) (hf : Fit ns) (h6 : ns.length ≤ 6) (hn : n < 0) (hns : ns ≠ []) (hpw : ¬ (ofN ns).Pairwise (· ≥ ·)) :
    Calls Try.prog 4 #[v, .int .i64 n] w fun e w' => e = .returned (.bool true) ∧ Ext w w' := by
  have C1 := Lib.hid (fun W h => Rank_ok v ns W h hf)
  have K1 := fun W h => cellsError_any v (ofN ns) W h
  rw [fit_err hf] at K1
  have K1 := Lib.hid K1
  have N1 := Lib.hid (fun W h => Next_ok v (ofN ns) W h (fit_err hf) (by simpa [ofN] using hns))
  have H1 := Lib.hid hv
  have HF7 := Lib.hid hf
  have hR := rank_bd 7 ns hf.1 hf.2
  have hl16 := hf.2
  obtain ⟨R, HR⟩ : ∃ R, Hid (rankF (cntN 7 ns) ns = R) := ⟨_, rfl⟩
  rw [HR.out] at C1 hR
  obtain ⟨ao, c, rfl, hlen, hc⟩ := hv.open
  clear hv hf
  have hx0 := (Ext.refl w).alloc (.cells #[.slice ao ns.length c] 22)
  obtain ⟨w0, hw0⟩ : ∃ w0, Hid (w.alloc (.cells #[.slice ao ns.length c] 22) = w0) := ⟨_, rfl⟩
  have hbx : w0.cell? ⟨w.heap.size, 0, none⟩ = some (.slice ao ns.length c) := by rw [← hw0.out]; simp [World.cell?_alloc_new]
  rw [hw0.out] at hx0
  have HFa := Lib.hid (indexFact_any w0)
  go_enter Try.func4, Try.ntmps4
  go_wp2_with fail
  rw [hw0.out]
  refine HFa.out.mono ?_
  rintro e w1 ⟨rfl, x1⟩
  have b1 := x1.cell hbx
  have X1 := hx0.trans x1
  go_wp2_with fail
  refine (C1.out _ (H1.out.ext X1)).mono ?_
  rintro e w2 ⟨rfl, x2⟩
  have b2 := x2.cell b1
  have X2 := X1.trans x2
  clear b1 x1 x2 hbx
  go_wp2_with fail
  refine (N1.out _ (ints_ofN (H1.out.ext X2))).mono ?_
  rintro e w3 ⟨hN, x3⟩
  obtain ⟨ux, ms, rfl, hux, hms, hmr⟩ : ∃ ux ms, e = .returned (.tuple #[ux, .int .i64 0]) ∧ Nats w3 ux ms ∧ Has (cntN 7 ns) ms ∧ rankF (cntN 7 ns) ms = R + 1 := by
    rcases hN with ⟨_, h⟩ | ⟨u, ys, h1, h2, hnp⟩
    · exact absurd h hpw
    · obtain ⟨ms, rfl, hms, hrk⟩ := nextP_rank ns HF7.out.1 ys hnp
      exact ⟨u, ms, h1, nats_of h2, hms, by rw [hrk, HR.out]⟩
  have HMR := Lib.hid hmr
  clear hN hmr
  have b3 := x3.cell b2
  have X3 := X2.trans x3
  clear b2 x3 hpw
  go_wp2_with fail
  refine (K1.out _ (ints_ofN (H1.out.ext X3))).mono ?_
  rintro e w4 ⟨rfl, x4⟩
  have b4 := x4.cell b3
  have X4 := X3.trans x4
  have hux4 := hux.ext x4
  clear hux
  clear b3 x4
  obtain ⟨W0, HW0⟩ : ∃ W0, Hid (w4 = W0) := ⟨_, rfl⟩
  have hok : cellsOk (ofN ns) := (cellsErr_zero (fit_err HF7.out)).1
  have hcc := ((ints_ofN (H1.out.ext X4)).open)
  obtain ⟨ao', c', heq, _, hcc⟩ := hcc
  have hol : (ofN ns).length = ns.length := by simp [ofN]
  simp only [hol, Value.slice.injEq] at heq
  obtain ⟨rfl, _, rfl⟩ := heq
  have HOL := Lib.hid hol; clear hol
  have hmk : ∀ W, (Instr.makeSlice 22 (.int .i64 7) (.int .i64 7)).run Try.prog W = .ok (.slice (some ⟨W.heap.size, 0, none⟩) 7 7) (W.alloc (.cells #[.int .i64 0, .int .i64 0, .int .i64 0, .int .i64 0, .int .i64 0, .int .i64 0, .int .i64 0] 3)) := fun _ => by kernel_rfl
  have HRE := rankF_facts ns HF7.out R HR
  have hlt4 : w.heap.size < w4.heap.size := World.block_lt_of_cell? w4 _ b4
  go_wp2_with fail
  go_loopw [56] (fun i wr => ∃ k : Nat, k ≤ ns.length ∧ i = .int .i64 k ∧ Ext w4 wr ∧ wr.ownsRow w4.heap.size 3 1 (.slice (some ⟨w4.heap.size, 0, none⟩) 7 7) 7 ((cnts ((ofN ns).take k)).map (Value.int .i64))) (fun i _ => ns.length - (intOf i).toNat)
  case atStart => exact ⟨0, Nat.zero_le _, rfl, (Ext.refl _).alloc _, own_made w4 (.int .i64 0) 3 7 (by decide) _ rfl⟩
  case round =>
    obtain ⟨k, hk, rfl, HX, HO⟩ := hrel
    by_cases hlt : k < ns.length
    · obtain ⟨x, h1, h2, h3⟩ := get_lt (xs := ofN ns) (k := k) (by rw [HOL.out]; exact hlt)
      obtain ⟨b, off, rfl, _⟩ := hcc.at h1
      have hcell := (hcc.ext HX).at' h1
      obtain ⟨hx0, hx6⟩ := hok x (List.mem_of_getElem? h1.out)
      obtain ⟨q, hq, hq0, hq1, hq2⟩ := cnts_at ((ofN ns).take k) x ⟨hx0, hx6⟩
      have hql : q ≤ 17592186044416 := by have : ((ofN ns).take k).length ≤ k := List.length_take_le _ _; omega
      clear hq1
      have hcx := own_cell HO (j := x.toNat) (x := .int .i64 q) (by simp [Hid, hq.out])
      have hfx := HO.frozenAt x.toNat
      have hst := HO.stored x.toNat (.int .i64 (q + 1))
      go_wp2_with fail
      go_roundw
      case rel => exact ⟨k + 1, by omega, by go_num, HX.setCell (Nat.le_refl _) _, by
        rw [h3.out, cnts_snoc, hq2.out, List.map_set]; exact hst.1⟩
      case measure => simp [intOf]; omega
    · obtain rfl : k = ns.length := by omega
      rw [← HOL.out, List.take_length, cnts_ofN, ofN_map] at HO
      have X5 := X4.trans HX
      have b5 := HX.cell b4
      have hcn := own_nats HO (by decide)
      have hsum := cntN_sum 7 ns HF7.out.1
      have HP := Lib.hid (placements_any ns.length _ (cntN 7 ns) _ hcn (by rw [cntN_len]; exact Nat.le_refl _) hsum (by omega))
      have hN := (plF_all _ _ hsum).1
      obtain ⟨N, HN⟩ : ∃ N, Hid (waysN (cntN 7 ns) = N) := ⟨_, rfl⟩
      rw [HN.out] at hN HRE
      have hw7 : fac (cntN 7 ns).sum ≤ fac 7 := fac_mono (by omega)
      have hw77 : fac 7 = 5040 := by decide
      have hwl := waysN_le (cntN 7 ns)
      rw [HN.out] at hwl
      have hNb : N ≤ 5040 := by omega
      have HNL := Lib.hid hN
      have HSU := Lib.hid hsum
      clear hw7 hw77 hwl hN hsum HO
      have hRN := HRE.1
      have HRE2 := Lib.hid HRE.2; clear HRE
      go_wp2_with fail
      refine HP.out.mono ?_
      rintro e w6 ⟨u, rfl, us, hus, hrs, x6⟩
      have hul : us.length = N := by
        have := hrs.len
        simp only [List.length_map, HNL.out] at this; exact this
      have hrow := own_row hus (by omega)
      have HUL := Lib.hid hul
      have b6 := x6.cell b5
      have X6 := X5.trans x6
      have E6 := HX.trans x6
      have hcn6 := hcn.ext x6
      clear b5 x6 X5 hul hus hcn
      have hps : ∀ (i : Nat) (u : Value) (ys : List Nat), us[i]? = some u → (plF ns.length (cntN 7 ns))[i]? = some ys → Ints w6 u (ofN ys) := by
        intro i u ys h1 h2
        have := (hrs.row i u (ys.map encN) h1 (by simp [h2])).1.1
        unfold Ints RowOf; rw [ofN_map]; exact this
      have HPS := Lib.hid hps; clear hps hrs
      have HIF := Lib.hid (indexFunc_rows u us ((plF ns.length (cntN 7 ns)).map fun ys => decide (ofN ys = ofN ns)) 21 #[.pointer (some ⟨w.heap.size, 0, none⟩)] w6 hrow (by rw [List.length_map, HNL.out, HUL.out]) (fun _ _ => by kernel_rfl)
        (fun i u q W h1 h2 hx => by
          simp only [List.getElem?_map, Option.map_eq_some_iff] at h2
          obtain ⟨ys, h3, h4⟩ := h2
          exact same_any w.heap.size u _ (ofN ys) (ofN ns) W ((HPS.out i u ys h1 h3).ext hx) (hx.cell b6) (ints_ofN (H1.out.ext (X6.trans hx))) q h4))
      have hat : idxF id ((plF ns.length (cntN 7 ns)).map fun ys => decide (ofN ys = ofN ns)) 0 = (R : Int) := by
        have h0 := idxF_at ((plF ns.length (cntN 7 ns)).map fun ys => decide (ofN ys = ofN ns)) R (by simp [HRE2.out.1]) (fun j hj h => by
          simp only [List.getElem?_map, Option.map_eq_some_iff] at h
          obtain ⟨ys, h3, h4⟩ := h
          have h5 := ofN_inj (of_decide_eq_true h4)
          subst h5
          exact HRE2.out.2 j hj h3) 0
        rw [h0]; omega
      have HIF2 := HIF.out
      rw [hat] at HIF2
      have HIF3 := Lib.hid HIF2
      clear HIF HIF2 hat
      obtain ⟨ao3, c3, rfl, _, _, _, hcr⟩ := id hrow
      go_wp2_with fail
      refine HIF3.out.mono ?_
      rintro e w7 ⟨rfl, x7⟩
      have X7 := X6.trans x7
      have hcn7 := hcn6.ext x7
      have hrow7 := hrow.ext x7
      clear HIF3 hcn6 b6
      have hR1 : R + 1 < us.length := by
        have h1 := ((plF_all _ _ rfl).2.1 _ hms).2
        rw [HMR.out, HN.out] at h1; rw [HUL.out]; exact h1
      have hms1 := ((plF_all _ _ rfl).2.1 _ hms).1
      rw [HMR.out, HSU.out] at hms1
      obtain ⟨u1, hu1, _, _⟩ := get_lt (xs := us) (k := R + 1) hR1
      have hq1 := (HPS.out (R + 1) u1 ms hu1.out hms1).ext x7
      obtain ⟨rb, ro, rfl, hrc⟩ := hrow7.at hu1
      have hux7 := ints_ofN (hux4.ext (E6.trans x7))
      clear hms1 hux4
      go_wp2_with fail
      refine (equal_ints _ _ _ _ _ hux7 hq1 true (by show _ = _; simp)).mono ?_
      rintro e w8 ⟨rfl, x8⟩
      have X8 := X7.trans x8
      have hcn8 := hcn7.ext x8
      have hrow8 := hrow7.ext x8
      clear hcn7 hrow7 X7 hrc
      have HUr := Lib.hid (fun W h => Unrank_range (.slice (some ⟨w4.heap.size, 0, none⟩) 7 7) (cntN 7 ns) n W h ⟨cntN_len _ _, by rw [HSU.out]; exact hl16⟩ (.inl hn))
      go_wp2_with fail
      refine (HUr.out _ hcn8).mono ?_
      rintro e w9 ⟨rfl, x9⟩
      go_wp2_with fail
      go_ret
      exact ⟨rfl, X8.trans x9⟩

set_option maxHeartbeats 4000000 in
set_option maxRecDepth 100000 in
theorem law_ranks_ok_big_nil (v : Value) (ns : List Nat) (n : Int) (w : World) (hv : Nats w v ns) (hf : Fit ns) (h6 : ns.length ≤ 6) (hn0 : 0 ≤ n) (hn : (waysN (cntN 7 ns) : Int) ≤ n) (hns : ns = []) :
    Calls Try.prog 4 #[v, .int .i64 n] w fun e w' => e = .returned (.bool true) ∧ Ext w w' := by
  have C1 := Lib.hid (fun W h => Rank_ok v ns W h hf)
  have K1 := fun W h => cellsError_any v (ofN ns) W h
  rw [fit_err hf] at K1
  have K1 := Lib.hid K1
  have N1 := Lib.hid (fun W (h : Ints W v (ofN ns)) => Next_nil v W (by subst hns; exact h))
  have H1 := Lib.hid hv
  have HF7 := Lib.hid hf
  have hR := rank_bd 7 ns hf.1 hf.2
  have hl16 := hf.2
  obtain ⟨R, HR⟩ : ∃ R, Hid (rankF (cntN 7 ns) ns = R) := ⟨_, rfl⟩
  rw [HR.out] at C1 hR
  have hla := rank_desc 7 ns hf.1 (by rw [hns]; exact .nil)
  rw [HR.out] at hla
  have HLA := Lib.hid hla; clear hla hns
  obtain ⟨ao, c, rfl, hlen, hc⟩ := hv.open
  clear hv hf
  have hx0 := (Ext.refl w).alloc (.cells #[.slice ao ns.length c] 22)
  obtain ⟨w0, hw0⟩ : ∃ w0, Hid (w.alloc (.cells #[.slice ao ns.length c] 22) = w0) := ⟨_, rfl⟩
  have hbx : w0.cell? ⟨w.heap.size, 0, none⟩ = some (.slice ao ns.length c) := by rw [← hw0.out]; simp [World.cell?_alloc_new]
  rw [hw0.out] at hx0
  have HFa := Lib.hid (indexFact_any w0)
  go_enter Try.func4, Try.ntmps4
  go_wp2_with fail
  rw [hw0.out]
  refine HFa.out.mono ?_
  rintro e w1 ⟨rfl, x1⟩
  have b1 := x1.cell hbx
  have X1 := hx0.trans x1
  go_wp2_with fail
  refine (C1.out _ (H1.out.ext X1)).mono ?_
  rintro e w2 ⟨rfl, x2⟩
  have b2 := x2.cell b1
  have X2 := X1.trans x2
  clear b1 x1 x2 hbx
  go_wp2_with fail
  refine (N1.out _ (ints_ofN (H1.out.ext X2))).mono ?_
  rintro e w3 ⟨rfl, x3⟩
  have b3 := x3.cell b2
  have X3 := X2.trans x3
  clear b2 x3
  go_wp2_with fail
  refine (K1.out _ (ints_ofN (H1.out.ext X3))).mono ?_
  rintro e w4 ⟨rfl, x4⟩
  have b4 := x4.cell b3
  have X4 := X3.trans x4
  clear b3 x4
  obtain ⟨W0, HW0⟩ : ∃ W0, Hid (w4 = W0) := ⟨_, rfl⟩
  have hok : cellsOk (ofN ns) := (cellsErr_zero (fit_err HF7.out)).1
  have hcc := ((ints_ofN (H1.out.ext X4)).open)
  obtain ⟨ao', c', heq, _, hcc⟩ := hcc
  have hol : (ofN ns).length = ns.length := by simp [ofN]
  simp only [hol, Value.slice.injEq] at heq
  obtain ⟨rfl, _, rfl⟩ := heq
  have HOL := Lib.hid hol; clear hol
  have hmk : ∀ W, (Instr.makeSlice 22 (.int .i64 7) (.int .i64 7)).run Try.prog W = .ok (.slice (some ⟨W.heap.size, 0, none⟩) 7 7) (W.alloc (.cells #[.int .i64 0, .int .i64 0, .int .i64 0, .int .i64 0, .int .i64 0, .int .i64 0, .int .i64 0] 3)) := fun _ => by kernel_rfl
  have HRE := rankF_facts ns HF7.out R HR
  have hlt4 : w.heap.size < w4.heap.size := World.block_lt_of_cell? w4 _ b4
  go_wp2_with fail
  go_loopw [56] (fun i wr => ∃ k : Nat, k ≤ ns.length ∧ i = .int .i64 k ∧ Ext w4 wr ∧ wr.ownsRow w4.heap.size 3 1 (.slice (some ⟨w4.heap.size, 0, none⟩) 7 7) 7 ((cnts ((ofN ns).take k)).map (Value.int .i64))) (fun i _ => ns.length - (intOf i).toNat)
  case atStart => exact ⟨0, Nat.zero_le _, rfl, (Ext.refl _).alloc _, own_made w4 (.int .i64 0) 3 7 (by decide) _ rfl⟩
  case round =>
    obtain ⟨k, hk, rfl, HX, HO⟩ := hrel
    by_cases hlt : k < ns.length
    · obtain ⟨x, h1, h2, h3⟩ := get_lt (xs := ofN ns) (k := k) (by rw [HOL.out]; exact hlt)
      obtain ⟨b, off, rfl, _⟩ := hcc.at h1
      have hcell := (hcc.ext HX).at' h1
      obtain ⟨hx0, hx6⟩ := hok x (List.mem_of_getElem? h1.out)
      obtain ⟨q, hq, hq0, hq1, hq2⟩ := cnts_at ((ofN ns).take k) x ⟨hx0, hx6⟩
      have hql : q ≤ 17592186044416 := by have : ((ofN ns).take k).length ≤ k := List.length_take_le _ _; omega
      clear hq1
      have hcx := own_cell HO (j := x.toNat) (x := .int .i64 q) (by simp [Hid, hq.out])
      have hfx := HO.frozenAt x.toNat
      have hst := HO.stored x.toNat (.int .i64 (q + 1))
      go_wp2_with fail
      go_roundw
      case rel => exact ⟨k + 1, by omega, by go_num, HX.setCell (Nat.le_refl _) _, by
        rw [h3.out, cnts_snoc, hq2.out, List.map_set]; exact hst.1⟩
      case measure => simp [intOf]; omega
    · obtain rfl : k = ns.length := by omega
      rw [← HOL.out, List.take_length, cnts_ofN, ofN_map] at HO
      have X5 := X4.trans HX
      have b5 := HX.cell b4
      have hcn := own_nats HO (by decide)
      have hsum := cntN_sum 7 ns HF7.out.1
      have HP := Lib.hid (placements_any ns.length _ (cntN 7 ns) _ hcn (by rw [cntN_len]; exact Nat.le_refl _) hsum (by omega))
      have hN := (plF_all _ _ hsum).1
      obtain ⟨N, HN⟩ : ∃ N, Hid (waysN (cntN 7 ns) = N) := ⟨_, rfl⟩
      rw [HN.out] at hN HRE
      have hw7 : fac (cntN 7 ns).sum ≤ fac 7 := fac_mono (by omega)
      have hw77 : fac 7 = 5040 := by decide
      have hwl := waysN_le (cntN 7 ns)
      rw [HN.out] at hwl
      have hNb : N ≤ 5040 := by omega
      have HNL := Lib.hid hN
      have HSU := Lib.hid hsum
      clear hw7 hw77 hwl hN hsum HO
      have hRN := HRE.1
      have HRE2 := Lib.hid HRE.2; clear HRE
      go_wp2_with fail
      refine HP.out.mono ?_
      rintro e w6 ⟨u, rfl, us, hus, hrs, x6⟩
      have hul : us.length = N := by
        have := hrs.len
        simp only [List.length_map, HNL.out] at this; exact this
      have hrow := own_row hus (by omega)
      have HUL := Lib.hid hul
      have b6 := x6.cell b5
      have X6 := X5.trans x6
      have E6 := HX.trans x6
      have hcn6 := hcn.ext x6
      clear b5 x6 X5 hul hus hcn
      have hps : ∀ (i : Nat) (u : Value) (ys : List Nat), us[i]? = some u → (plF ns.length (cntN 7 ns))[i]? = some ys → Ints w6 u (ofN ys) := by
        intro i u ys h1 h2
        have := (hrs.row i u (ys.map encN) h1 (by simp [h2])).1.1
        unfold Ints RowOf; rw [ofN_map]; exact this
      have HPS := Lib.hid hps; clear hps hrs
      have HIF := Lib.hid (indexFunc_rows u us ((plF ns.length (cntN 7 ns)).map fun ys => decide (ofN ys = ofN ns)) 21 #[.pointer (some ⟨w.heap.size, 0, none⟩)] w6 hrow (by rw [List.length_map, HNL.out, HUL.out]) (fun _ _ => by kernel_rfl)
        (fun i u q W h1 h2 hx => by
          simp only [List.getElem?_map, Option.map_eq_some_iff] at h2
          obtain ⟨ys, h3, h4⟩ := h2
          exact same_any w.heap.size u _ (ofN ys) (ofN ns) W ((HPS.out i u ys h1 h3).ext hx) (hx.cell b6) (ints_ofN (H1.out.ext (X6.trans hx))) q h4))
      have hat : idxF id ((plF ns.length (cntN 7 ns)).map fun ys => decide (ofN ys = ofN ns)) 0 = (R : Int) := by
        have h0 := idxF_at ((plF ns.length (cntN 7 ns)).map fun ys => decide (ofN ys = ofN ns)) R (by simp [HRE2.out.1]) (fun j hj h => by
          simp only [List.getElem?_map, Option.map_eq_some_iff] at h
          obtain ⟨ys, h3, h4⟩ := h
          have h5 := ofN_inj (of_decide_eq_true h4)
          subst h5
          exact HRE2.out.2 j hj h3) 0
        rw [h0]; omega
      have HIF2 := HIF.out
      rw [hat] at HIF2
      have HIF3 := Lib.hid HIF2
      clear HIF HIF2 hat
      obtain ⟨ao3, c3, rfl, _, _, _, hcr⟩ := id hrow
      go_wp2_with fail
      refine HIF3.out.mono ?_
      rintro e w7 ⟨rfl, x7⟩
      have X7 := X6.trans x7
      have hcn7 := hcn6.ext x7
      have hrow7 := hrow.ext x7
      clear HIF3 hcn6 b6
      have hR1 : R + 1 = N := by rw [← HN.out]; exact HLA.out
      have hR2 : us.length ≤ R + 1 := by rw [HUL.out]; omega
      have w7e : Ext w7 w7 := Ext.refl _
      obtain ⟨w8, e8⟩ : ∃ w8, w8 = w7 := ⟨_, rfl⟩
      subst e8
      have X8 := X7; have hcn8 := hcn7; have hrow8 := hrow7
      clear hR1 hcn7 hrow7 X7
      have HUr := Lib.hid (fun W h => Unrank_range (.slice (some ⟨w4.heap.size, 0, none⟩) 7 7) (cntN 7 ns) n W h ⟨cntN_len _ _, by rw [HSU.out]; exact hl16⟩ (.inr hn))
      have hn2 : ((us.length : Nat) : Int) ≤ n := by rw [HUL.out, ← HN.out]; exact hn
      clear hn
      go_wp2_with fail
      refine (HUr.out _ hcn8).mono ?_
      rintro e w9 ⟨rfl, x9⟩
      go_wp2_with fail
      go_ret
      exact ⟨rfl, X8.trans x9⟩

set_option maxHeartbeats 4000000 in
set_option maxRecDepth 100000 in
theorem law_ranks_ok_big_last (v : Value) (ns : List Nat) (n : Int) (w : World) (hv : Nats w v ns) (hf : Fit ns) (h6 : ns.length ≤ 6) (hn0 : 0 ≤ n) (hn : (waysN (cntN 7 ns) : Int) ≤ n) (hns : ns ≠ []) (hpw : (ofN ns).Pairwise (· ≥ ·)) :
    Calls Try.prog 4 #[v, .int .i64 n] w fun e w' => e = .returned (.bool true) ∧ Ext w w' := by
  have C1 := Lib.hid (fun W h => Rank_ok v ns W h hf)
  have K1 := fun W h => cellsError_any v (ofN ns) W h
  rw [fit_err hf] at K1
  have K1 := Lib.hid K1
  have N1 := Lib.hid (fun W h => Next_ok v (ofN ns) W h (fit_err hf) (by simpa [ofN] using hns))
  have H1 := Lib.hid hv
  have HF7 := Lib.hid hf
  have hR := rank_bd 7 ns hf.1 hf.2
  have hl16 := hf.2
  obtain ⟨R, HR⟩ : ∃ R, Hid (rankF (cntN 7 ns) ns = R) := ⟨_, rfl⟩
  rw [HR.out] at C1 hR
  have hla := rank_desc 7 ns hf.1 (by rw [ofN, List.pairwise_map] at hpw; exact hpw.imp (fun h => by omega))
  rw [HR.out] at hla
  have HLA := Lib.hid hla; clear hla hns
  obtain ⟨ao, c, rfl, hlen, hc⟩ := hv.open
  clear hv hf
  have hx0 := (Ext.refl w).alloc (.cells #[.slice ao ns.length c] 22)
  obtain ⟨w0, hw0⟩ : ∃ w0, Hid (w.alloc (.cells #[.slice ao ns.length c] 22) = w0) := ⟨_, rfl⟩
  have hbx : w0.cell? ⟨w.heap.size, 0, none⟩ = some (.slice ao ns.length c) := by rw [← hw0.out]; simp [World.cell?_alloc_new]
  rw [hw0.out] at hx0
  have HFa := Lib.hid (indexFact_any w0)
  go_enter Try.func4, Try.ntmps4
  go_wp2_with fail
  rw [hw0.out]
  refine HFa.out.mono ?_
  rintro e w1 ⟨rfl, x1⟩
  have b1 := x1.cell hbx
  have X1 := hx0.trans x1
  go_wp2_with fail
  refine (C1.out _ (H1.out.ext X1)).mono ?_
  rintro e w2 ⟨rfl, x2⟩
  have b2 := x2.cell b1
  have X2 := X1.trans x2
  clear b1 x1 x2 hbx
  go_wp2_with fail
  refine (N1.out _ (ints_ofN (H1.out.ext X2))).mono ?_
  rintro e w3 ⟨hN, x3⟩
  have hN2 : e = .returned (.tuple #[.slice none 0 0, .int .i64 8]) := by
    rcases hN with ⟨h, _⟩ | ⟨u, ys, _, _, hnp⟩
    · exact h
    · exfalso
      obtain ⟨ms, rfl, hms, hrk⟩ := nextP_rank ns HF7.out.1 ys hnp
      have h1 := ((plF_all _ _ rfl).2.1 ms hms).2
      have h2 := HLA.out
      have h3 := HR.out
      omega
  subst hN2
  clear hN
  have b3 := x3.cell b2
  have X3 := X2.trans x3
  clear b2 x3 hpw
  go_wp2_with fail
  refine (K1.out _ (ints_ofN (H1.out.ext X3))).mono ?_
  rintro e w4 ⟨rfl, x4⟩
  have b4 := x4.cell b3
  have X4 := X3.trans x4
  clear b3 x4
  obtain ⟨W0, HW0⟩ : ∃ W0, Hid (w4 = W0) := ⟨_, rfl⟩
  have hok : cellsOk (ofN ns) := (cellsErr_zero (fit_err HF7.out)).1
  have hcc := ((ints_ofN (H1.out.ext X4)).open)
  obtain ⟨ao', c', heq, _, hcc⟩ := hcc
  have hol : (ofN ns).length = ns.length := by simp [ofN]
  simp only [hol, Value.slice.injEq] at heq
  obtain ⟨rfl, _, rfl⟩ := heq
  have HOL := Lib.hid hol; clear hol
  have hmk : ∀ W, (Instr.makeSlice 22 (.int .i64 7) (.int .i64 7)).run Try.prog W = .ok (.slice (some ⟨W.heap.size, 0, none⟩) 7 7) (W.alloc (.cells #[.int .i64 0, .int .i64 0, .int .i64 0, .int .i64 0, .int .i64 0, .int .i64 0, .int .i64 0] 3)) := fun _ => by kernel_rfl
  have HRE := rankF_facts ns HF7.out R HR
  have hlt4 : w.heap.size < w4.heap.size := World.block_lt_of_cell? w4 _ b4
  go_wp2_with fail
  go_loopw [56] (fun i wr => ∃ k : Nat, k ≤ ns.length ∧ i = .int .i64 k ∧ Ext w4 wr ∧ wr.ownsRow w4.heap.size 3 1 (.slice (some ⟨w4.heap.size, 0, none⟩) 7 7) 7 ((cnts ((ofN ns).take k)).map (Value.int .i64))) (fun i _ => ns.length - (intOf i).toNat)
  case atStart => exact ⟨0, Nat.zero_le _, rfl, (Ext.refl _).alloc _, own_made w4 (.int .i64 0) 3 7 (by decide) _ rfl⟩
  case round =>
    obtain ⟨k, hk, rfl, HX, HO⟩ := hrel
    by_cases hlt : k < ns.length
    · obtain ⟨x, h1, h2, h3⟩ := get_lt (xs := ofN ns) (k := k) (by rw [HOL.out]; exact hlt)
      obtain ⟨b, off, rfl, _⟩ := hcc.at h1
      have hcell := (hcc.ext HX).at' h1
      obtain ⟨hx0, hx6⟩ := hok x (List.mem_of_getElem? h1.out)
      obtain ⟨q, hq, hq0, hq1, hq2⟩ := cnts_at ((ofN ns).take k) x ⟨hx0, hx6⟩
      have hql : q ≤ 17592186044416 := by have : ((ofN ns).take k).length ≤ k := List.length_take_le _ _; omega
      clear hq1
      have hcx := own_cell HO (j := x.toNat) (x := .int .i64 q) (by simp [Hid, hq.out])
      have hfx := HO.frozenAt x.toNat
      have hst := HO.stored x.toNat (.int .i64 (q + 1))
      go_wp2_with fail
      go_roundw
      case rel => exact ⟨k + 1, by omega, by go_num, HX.setCell (Nat.le_refl _) _, by
        rw [h3.out, cnts_snoc, hq2.out, List.map_set]; exact hst.1⟩
      case measure => simp [intOf]; omega
    · obtain rfl : k = ns.length := by omega
      rw [← HOL.out, List.take_length, cnts_ofN, ofN_map] at HO
      have X5 := X4.trans HX
      have b5 := HX.cell b4
      have hcn := own_nats HO (by decide)
      have hsum := cntN_sum 7 ns HF7.out.1
      have HP := Lib.hid (placements_any ns.length _ (cntN 7 ns) _ hcn (by rw [cntN_len]; exact Nat.le_refl _) hsum (by omega))
      have hN := (plF_all _ _ hsum).1
      obtain ⟨N, HN⟩ : ∃ N, Hid (waysN (cntN 7 ns) = N) := ⟨_, rfl⟩
      rw [HN.out] at hN HRE
      have hw7 : fac (cntN 7 ns).sum ≤ fac 7 := fac_mono (by omega)
      have hw77 : fac 7 = 5040 := by decide
      have hwl := waysN_le (cntN 7 ns)
      rw [HN.out] at hwl
      have hNb : N ≤ 5040 := by omega
      have HNL := Lib.hid hN
      have HSU := Lib.hid hsum
      clear hw7 hw77 hwl hN hsum HO
      have hRN := HRE.1
      have HRE2 := Lib.hid HRE.2; clear HRE
      go_wp2_with fail
      refine HP.out.mono ?_
      rintro e w6 ⟨u, rfl, us, hus, hrs, x6⟩
      have hul : us.length = N := by
        have := hrs.len
        simp only [List.length_map, HNL.out] at this; exact this
      have hrow := own_row hus (by omega)
      have HUL := Lib.hid hul
      have b6 := x6.cell b5
      have X6 := X5.trans x6
      have E6 := HX.trans x6
      have hcn6 := hcn.ext x6
      clear b5 x6 X5 hul hus hcn
      have hps : ∀ (i : Nat) (u : Value) (ys : List Nat), us[i]? = some u → (plF ns.length (cntN 7 ns))[i]? = some ys → Ints w6 u (ofN ys) := by
        intro i u ys h1 h2
        have := (hrs.row i u (ys.map encN) h1 (by simp [h2])).1.1
        unfold Ints RowOf; rw [ofN_map]; exact this
      have HPS := Lib.hid hps; clear hps hrs
      have HIF := Lib.hid (indexFunc_rows u us ((plF ns.length (cntN 7 ns)).map fun ys => decide (ofN ys = ofN ns)) 21 #[.pointer (some ⟨w.heap.size, 0, none⟩)] w6 hrow (by rw [List.length_map, HNL.out, HUL.out]) (fun _ _ => by kernel_rfl)
        (fun i u q W h1 h2 hx => by
          simp only [List.getElem?_map, Option.map_eq_some_iff] at h2
          obtain ⟨ys, h3, h4⟩ := h2
          exact same_any w.heap.size u _ (ofN ys) (ofN ns) W ((HPS.out i u ys h1 h3).ext hx) (hx.cell b6) (ints_ofN (H1.out.ext (X6.trans hx))) q h4))
      have hat : idxF id ((plF ns.length (cntN 7 ns)).map fun ys => decide (ofN ys = ofN ns)) 0 = (R : Int) := by
        have h0 := idxF_at ((plF ns.length (cntN 7 ns)).map fun ys => decide (ofN ys = ofN ns)) R (by simp [HRE2.out.1]) (fun j hj h => by
          simp only [List.getElem?_map, Option.map_eq_some_iff] at h
          obtain ⟨ys, h3, h4⟩ := h
          have h5 := ofN_inj (of_decide_eq_true h4)
          subst h5
          exact HRE2.out.2 j hj h3) 0
        rw [h0]; omega
      have HIF2 := HIF.out
      rw [hat] at HIF2
      have HIF3 := Lib.hid HIF2
      clear HIF HIF2 hat
      obtain ⟨ao3, c3, rfl, _, _, _, hcr⟩ := id hrow
      go_wp2_with fail
      refine HIF3.out.mono ?_
      rintro e w7 ⟨rfl, x7⟩
      have X7 := X6.trans x7
      have hcn7 := hcn6.ext x7
      have hrow7 := hrow.ext x7
      clear HIF3 hcn6 b6
      have hR1 : R + 1 = N := by rw [← HN.out]; exact HLA.out
      have hR2 : us.length ≤ R + 1 := by rw [HUL.out]; omega
      have w7e : Ext w7 w7 := Ext.refl _
      obtain ⟨w8, e8⟩ : ∃ w8, w8 = w7 := ⟨_, rfl⟩
      subst e8
      have X8 := X7; have hcn8 := hcn7; have hrow8 := hrow7
      clear hR1 hcn7 hrow7 X7
      have HUr := Lib.hid (fun W h => Unrank_range (.slice (some ⟨w4.heap.size, 0, none⟩) 7 7) (cntN 7 ns) n W h ⟨cntN_len _ _, by rw [HSU.out]; exact hl16⟩ (.inr hn))
      have hn2 : ((us.length : Nat) : Int) ≤ n := by rw [HUL.out, ← HN.out]; exact hn
      clear hn
      go_wp2_with fail
      refine (HUr.out _ hcn8).mono ?_
      rintro e w9 ⟨rfl, x9⟩
      go_wp2_with fail
      go_ret
      exact ⟨rfl, X8.trans x9⟩

set_option maxHeartbeats 4000000 in
set_option maxRecDepth 100000 in
theorem law_ranks_ok_big_more (v : Value) (ns : List Nat) (n : Int) (w : World) (hv : Nats w v ns) (hf : Fit ns) (h6 : ns.length ≤ 6) (hn0 : 0 ≤ n) (hn : (waysN (cntN 7 ns) : Int) ≤ n) (hns : ns ≠ []) (hpw : ¬ (ofN ns).Pairwise (· ≥ ·)) :
    Calls Try.prog 4 #[v, .int .i64 n] w fun e w' => e = .returned (.bool true) ∧ Ext w w' := by
  have C1 := Lib.hid (fun W h => Rank_ok v ns W h hf)
  have K1 := fun W h => cellsError_any v (ofN ns) W h
  rw [fit_err hf] at K1
  have K1 := Lib.hid K1
  have N1 := Lib.hid (fun W h => Next_ok v (ofN ns) W h (fit_err hf) (by simpa [ofN] using hns))
  have H1 := Lib.hid hv
  have HF7 := Lib.hid hf
  have hR := rank_bd 7 ns hf.1 hf.2
  have hl16 := hf.2
  obtain ⟨R, HR⟩ : ∃ R, Hid (rankF (cntN 7 ns) ns = R) := ⟨_, rfl⟩
  rw [HR.out] at C1 hR
  obtain ⟨ao, c, rfl, hlen, hc⟩ := hv.open
  clear hv hf
  have hx0 := (Ext.refl w).alloc (.cells #[.slice ao ns.length c] 22)
  obtain ⟨w0, hw0⟩ : ∃ w0, Hid (w.alloc (.cells #[.slice ao ns.length c] 22) = w0) := ⟨_, rfl⟩
  have hbx : w0.cell? ⟨w.heap.size, 0, none⟩ = some (.slice ao ns.length c) := by rw [← hw0.out]; simp [World.cell?_alloc_new]
  rw [hw0.out] at hx0
  have HFa := Lib.hid (indexFact_any w0)
  go_enter Try.func4, Try.ntmps4
  go_wp2_with fail
  rw [hw0.out]
  refine HFa.out.mono ?_
  rintro e w1 ⟨rfl, x1⟩
  have b1 := x1.cell hbx
  have X1 := hx0.trans x1
  go_wp2_with fail
  refine (C1.out _ (H1.out.ext X1)).mono ?_
  rintro e w2 ⟨rfl, x2⟩
  have b2 := x2.cell b1
  have X2 := X1.trans x2
  clear b1 x1 x2 hbx
  go_wp2_with fail
  refine (N1.out _ (ints_ofN (H1.out.ext X2))).mono ?_
  rintro e w3 ⟨hN, x3⟩
  obtain ⟨ux, ms, rfl, hux, hms, hmr⟩ : ∃ ux ms, e = .returned (.tuple #[ux, .int .i64 0]) ∧ Nats w3 ux ms ∧ Has (cntN 7 ns) ms ∧ rankF (cntN 7 ns) ms = R + 1 := by
    rcases hN with ⟨_, h⟩ | ⟨u, ys, h1, h2, hnp⟩
    · exact absurd h hpw
    · obtain ⟨ms, rfl, hms, hrk⟩ := nextP_rank ns HF7.out.1 ys hnp
      exact ⟨u, ms, h1, nats_of h2, hms, by rw [hrk, HR.out]⟩
  have HMR := Lib.hid hmr
  clear hN hmr
  have b3 := x3.cell b2
  have X3 := X2.trans x3
  clear b2 x3 hpw
  go_wp2_with fail
  refine (K1.out _ (ints_ofN (H1.out.ext X3))).mono ?_
  rintro e w4 ⟨rfl, x4⟩
  have b4 := x4.cell b3
  have X4 := X3.trans x4
  have hux4 := hux.ext x4
  clear hux
  clear b3 x4
  obtain ⟨W0, HW0⟩ : ∃ W0, Hid (w4 = W0) := ⟨_, rfl⟩
  have hok : cellsOk (ofN ns) := (cellsErr_zero (fit_err HF7.out)).1
  have hcc := ((ints_ofN (H1.out.ext X4)).open)
  obtain ⟨ao', c', heq, _, hcc⟩ := hcc
  have hol : (ofN ns).length = ns.length := by simp [ofN]
  simp only [hol, Value.slice.injEq] at heq
  obtain ⟨rfl, _, rfl⟩ := heq
  have HOL := Lib.hid hol; clear hol
  have hmk : ∀ W, (Instr.makeSlice 22 (.int .i64 7) (.int .i64 7)).run Try.prog W = .ok (.slice (some ⟨W.heap.size, 0, none⟩) 7 7) (W.alloc (.cells #[.int .i64 0, .int .i64 0, .int .i64 0, .int .i64 0, .int .i64 0, .int .i64 0, .int .i64 0] 3)) := fun _ => by kernel_rfl
  have HRE := rankF_facts ns HF7.out R HR
  have hlt4 : w.heap.size < w4.heap.size := World.block_lt_of_cell? w4 _ b4
  go_wp2_with fail
  go_loopw [56] (fun i wr => ∃ k : Nat, k ≤ ns.length ∧ i = .int .i64 k ∧ Ext w4 wr ∧ wr.ownsRow w4.heap.size 3 1 (.slice (some ⟨w4.heap.size, 0, none⟩) 7 7) 7 ((cnts ((ofN ns).take k)).map (Value.int .i64))) (fun i _ => ns.length - (intOf i).toNat)
  case atStart => exact ⟨0, Nat.zero_le _, rfl, (Ext.refl _).alloc _, own_made w4 (.int .i64 0) 3 7 (by decide) _ rfl⟩
  case round =>
    obtain ⟨k, hk, rfl, HX, HO⟩ := hrel
    by_cases hlt : k < ns.length
    · obtain ⟨x, h1, h2, h3⟩ := get_lt (xs := ofN ns) (k := k) (by rw [HOL.out]; exact hlt)
      obtain ⟨b, off, rfl, _⟩ := hcc.at h1
      have hcell := (hcc.ext HX).at' h1
      obtain ⟨hx0, hx6⟩ := hok x (List.mem_of_getElem? h1.out)
      obtain ⟨q, hq, hq0, hq1, hq2⟩ := cnts_at ((ofN ns).take k) x ⟨hx0, hx6⟩
      have hql : q ≤ 17592186044416 := by have : ((ofN ns).take k).length ≤ k := List.length_take_le _ _; omega
      clear hq1
      have hcx := own_cell HO (j := x.toNat) (x := .int .i64 q) (by simp [Hid, hq.out])
      have hfx := HO.frozenAt x.toNat
      have hst := HO.stored x.toNat (.int .i64 (q + 1))
      go_wp2_with fail
      go_roundw
      case rel => exact ⟨k + 1, by omega, by go_num, HX.setCell (Nat.le_refl _) _, by
        rw [h3.out, cnts_snoc, hq2.out, List.map_set]; exact hst.1⟩
      case measure => simp [intOf]; omega
    · obtain rfl : k = ns.length := by omega
      rw [← HOL.out, List.take_length, cnts_ofN, ofN_map] at HO
      have X5 := X4.trans HX
      have b5 := HX.cell b4
      have hcn := own_nats HO (by decide)
      have hsum := cntN_sum 7 ns HF7.out.1
      have HP := Lib.hid (placements_any ns.length _ (cntN 7 ns) _ hcn (by rw [cntN_len]; exact Nat.le_refl _) hsum (by omega))
      have hN := (plF_all _ _ hsum).1
      obtain ⟨N, HN⟩ : ∃ N, Hid (waysN (cntN 7 ns) = N) := ⟨_, rfl⟩
      rw [HN.out] at hN HRE
      have hw7 : fac (cntN 7 ns).sum ≤ fac 7 := fac_mono (by omega)
      have hw77 : fac 7 = 5040 := by decide
      have hwl := waysN_le (cntN 7 ns)
      rw [HN.out] at hwl
      have hNb : N ≤ 5040 := by omega
      have HNL := Lib.hid hN
      have HSU := Lib.hid hsum
      clear hw7 hw77 hwl hN hsum HO
      have hRN := HRE.1
      have HRE2 := Lib.hid HRE.2; clear HRE
      go_wp2_with fail
      refine HP.out.mono ?_
      rintro e w6 ⟨u, rfl, us, hus, hrs, x6⟩
      have hul : us.length = N := by
        have := hrs.len
        simp only [List.length_map, HNL.out] at this; exact this
      have hrow := own_row hus (by omega)
      have HUL := Lib.hid hul
      have b6 := x6.cell b5
      have X6 := X5.trans x6
      have E6 := HX.trans x6
      have hcn6 := hcn.ext x6
      clear b5 x6 X5 hul hus hcn
      have hps : ∀ (i : Nat) (u : Value) (ys : List Nat), us[i]? = some u → (plF ns.length (cntN 7 ns))[i]? = some ys → Ints w6 u (ofN ys) := by
        intro i u ys h1 h2
        have := (hrs.row i u (ys.map encN) h1 (by simp [h2])).1.1
        unfold Ints RowOf; rw [ofN_map]; exact this
      have HPS := Lib.hid hps; clear hps hrs
      have HIF := Lib.hid (indexFunc_rows u us ((plF ns.length (cntN 7 ns)).map fun ys => decide (ofN ys = ofN ns)) 21 #[.pointer (some ⟨w.heap.size, 0, none⟩)] w6 hrow (by rw [List.length_map, HNL.out, HUL.out]) (fun _ _ => by kernel_rfl)
        (fun i u q W h1 h2 hx => by
          simp only [List.getElem?_map, Option.map_eq_some_iff] at h2
          obtain ⟨ys, h3, h4⟩ := h2
          exact same_any w.heap.size u _ (ofN ys) (ofN ns) W ((HPS.out i u ys h1 h3).ext hx) (hx.cell b6) (ints_ofN (H1.out.ext (X6.trans hx))) q h4))
      have hat : idxF id ((plF ns.length (cntN 7 ns)).map fun ys => decide (ofN ys = ofN ns)) 0 = (R : Int) := by
        have h0 := idxF_at ((plF ns.length (cntN 7 ns)).map fun ys => decide (ofN ys = ofN ns)) R (by simp [HRE2.out.1]) (fun j hj h => by
          simp only [List.getElem?_map, Option.map_eq_some_iff] at h
          obtain ⟨ys, h3, h4⟩ := h
          have h5 := ofN_inj (of_decide_eq_true h4)
          subst h5
          exact HRE2.out.2 j hj h3) 0
        rw [h0]; omega
      have HIF2 := HIF.out
      rw [hat] at HIF2
      have HIF3 := Lib.hid HIF2
      clear HIF HIF2 hat
      obtain ⟨ao3, c3, rfl, _, _, _, hcr⟩ := id hrow
      go_wp2_with fail
      refine HIF3.out.mono ?_
      rintro e w7 ⟨rfl, x7⟩
      have X7 := X6.trans x7
      have hcn7 := hcn6.ext x7
      have hrow7 := hrow.ext x7
      clear HIF3 hcn6 b6
      have hR1 : R + 1 < us.length := by
        have h1 := ((plF_all _ _ rfl).2.1 _ hms).2
        rw [HMR.out, HN.out] at h1; rw [HUL.out]; exact h1
      have hms1 := ((plF_all _ _ rfl).2.1 _ hms).1
      rw [HMR.out, HSU.out] at hms1
      obtain ⟨u1, hu1, _, _⟩ := get_lt (xs := us) (k := R + 1) hR1
      have hq1 := (HPS.out (R + 1) u1 ms hu1.out hms1).ext x7
      obtain ⟨rb, ro, rfl, hrc⟩ := hrow7.at hu1
      have hux7 := ints_ofN (hux4.ext (E6.trans x7))
      clear hms1 hux4
      go_wp2_with fail
      refine (equal_ints _ _ _ _ _ hux7 hq1 true (by show _ = _; simp)).mono ?_
      rintro e w8 ⟨rfl, x8⟩
      have X8 := X7.trans x8
      have hcn8 := hcn7.ext x8
      have hrow8 := hrow7.ext x8
      clear hcn7 hrow7 X7 hrc
      have HUr := Lib.hid (fun W h => Unrank_range (.slice (some ⟨w4.heap.size, 0, none⟩) 7 7) (cntN 7 ns) n W h ⟨cntN_len _ _, by rw [HSU.out]; exact hl16⟩ (.inr hn))
      have hn2 : ((us.length : Nat) : Int) ≤ n := by rw [HUL.out, ← HN.out]; exact hn
      clear hn
      go_wp2_with fail
      refine (HUr.out _ hcn8).mono ?_
      rintro e w9 ⟨rfl, x9⟩
      go_wp2_with fail
      go_ret
      exact ⟨rfl, X8.trans x9⟩

set_option maxHeartbeats 4000000 in
set_option maxRecDepth 100000 in
theorem law_ranks_ok_in_nil (v : Value) (ns : List Nat) (n : Int) (w : World) (hv : Nats w v ns) (hf : Fit ns) (h6 : ns.length ≤ 6) (m : Nat) (hm : n = m) (hn : m < waysN (cntN 7 ns)) (hns : ns = []) :
    Calls Try.prog 4 #[v, .int .i64 n] w fun e w' => e = .returned (.bool true) ∧ Ext w w' := by
  subst hm
  have C1 := Lib.hid (fun W h => Rank_ok v ns W h hf)
  have K1 := fun W h => cellsError_any v (ofN ns) W h
  rw [fit_err hf] at K1
  have K1 := Lib.hid K1
  have N1 := Lib.hid (fun W (h : Ints W v (ofN ns)) => Next_nil v W (by subst hns; exact h))
  have H1 := Lib.hid hv
  have HF7 := Lib.hid hf
  have hR := rank_bd 7 ns hf.1 hf.2
  have hl16 := hf.2
  obtain ⟨R, HR⟩ : ∃ R, Hid (rankF (cntN 7 ns) ns = R) := ⟨_, rfl⟩
  rw [HR.out] at C1 hR
  have hla := rank_desc 7 ns hf.1 (by rw [hns]; exact .nil)
  rw [HR.out] at hla
  have HLA := Lib.hid hla; clear hla hns
  obtain ⟨ao, c, rfl, hlen, hc⟩ := hv.open
  clear hv hf
  have hx0 := (Ext.refl w).alloc (.cells #[.slice ao ns.length c] 22)
  obtain ⟨w0, hw0⟩ : ∃ w0, Hid (w.alloc (.cells #[.slice ao ns.length c] 22) = w0) := ⟨_, rfl⟩
  have hbx : w0.cell? ⟨w.heap.size, 0, none⟩ = some (.slice ao ns.length c) := by rw [← hw0.out]; simp [World.cell?_alloc_new]
  rw [hw0.out] at hx0
  have HFa := Lib.hid (indexFact_any w0)
  go_enter Try.func4, Try.ntmps4
  go_wp2_with fail
  rw [hw0.out]
  refine HFa.out.mono ?_
  rintro e w1 ⟨rfl, x1⟩
  have b1 := x1.cell hbx
  have X1 := hx0.trans x1
  go_wp2_with fail
  refine (C1.out _ (H1.out.ext X1)).mono ?_
  rintro e w2 ⟨rfl, x2⟩
  have b2 := x2.cell b1
  have X2 := X1.trans x2
  clear b1 x1 x2 hbx
  go_wp2_with fail
  refine (N1.out _ (ints_ofN (H1.out.ext X2))).mono ?_
  rintro e w3 ⟨rfl, x3⟩
  have b3 := x3.cell b2
  have X3 := X2.trans x3
  clear b2 x3
  go_wp2_with fail
  refine (K1.out _ (ints_ofN (H1.out.ext X3))).mono ?_
  rintro e w4 ⟨rfl, x4⟩
  have b4 := x4.cell b3
  have X4 := X3.trans x4
  clear b3 x4
  obtain ⟨W0, HW0⟩ : ∃ W0, Hid (w4 = W0) := ⟨_, rfl⟩
  have hok : cellsOk (ofN ns) := (cellsErr_zero (fit_err HF7.out)).1
  have hcc := ((ints_ofN (H1.out.ext X4)).open)
  obtain ⟨ao', c', heq, _, hcc⟩ := hcc
  have hol : (ofN ns).length = ns.length := by simp [ofN]
  simp only [hol, Value.slice.injEq] at heq
  obtain ⟨rfl, _, rfl⟩ := heq
  have HOL := Lib.hid hol; clear hol
  have hmk : ∀ W, (Instr.makeSlice 22 (.int .i64 7) (.int .i64 7)).run Try.prog W = .ok (.slice (some ⟨W.heap.size, 0, none⟩) 7 7) (W.alloc (.cells #[.int .i64 0, .int .i64 0, .int .i64 0, .int .i64 0, .int .i64 0, .int .i64 0, .int .i64 0] 3)) := fun _ => by kernel_rfl
  have HRE := rankF_facts ns HF7.out R HR
  have hlt4 : w.heap.size < w4.heap.size := World.block_lt_of_cell? w4 _ b4
  go_wp2_with fail
  go_loopw [56] (fun i wr => ∃ k : Nat, k ≤ ns.length ∧ i = .int .i64 k ∧ Ext w4 wr ∧ wr.ownsRow w4.heap.size 3 1 (.slice (some ⟨w4.heap.size, 0, none⟩) 7 7) 7 ((cnts ((ofN ns).take k)).map (Value.int .i64))) (fun i _ => ns.length - (intOf i).toNat)
  case atStart => exact ⟨0, Nat.zero_le _, rfl, (Ext.refl _).alloc _, own_made w4 (.int .i64 0) 3 7 (by decide) _ rfl⟩
  case round =>
    obtain ⟨k, hk, rfl, HX, HO⟩ := hrel
    by_cases hlt : k < ns.length
    · obtain ⟨x, h1, h2, h3⟩ := get_lt (xs := ofN ns) (k := k) (by rw [HOL.out]; exact hlt)
      obtain ⟨b, off, rfl, _⟩ := hcc.at h1
      have hcell := (hcc.ext HX).at' h1
      obtain ⟨hx0, hx6⟩ := hok x (List.mem_of_getElem? h1.out)
      obtain ⟨q, hq, hq0, hq1, hq2⟩ := cnts_at ((ofN ns).take k) x ⟨hx0, hx6⟩
      have hql : q ≤ 17592186044416 := by have : ((ofN ns).take k).length ≤ k := List.length_take_le _ _; omega
      clear hq1
      have hcx := own_cell HO (j := x.toNat) (x := .int .i64 q) (by simp [Hid, hq.out])
      have hfx := HO.frozenAt x.toNat
      have hst := HO.stored x.toNat (.int .i64 (q + 1))
      go_wp2_with fail
      go_roundw
      case rel => exact ⟨k + 1, by omega, by go_num, HX.setCell (Nat.le_refl _) _, by
        rw [h3.out, cnts_snoc, hq2.out, List.map_set]; exact hst.1⟩
      case measure => simp [intOf]; omega
    · obtain rfl : k = ns.length := by omega
      rw [← HOL.out, List.take_length, cnts_ofN, ofN_map] at HO
      have X5 := X4.trans HX
      have b5 := HX.cell b4
      have hcn := own_nats HO (by decide)
      have hsum := cntN_sum 7 ns HF7.out.1
      have HP := Lib.hid (placements_any ns.length _ (cntN 7 ns) _ hcn (by rw [cntN_len]; exact Nat.le_refl _) hsum (by omega))
      have hN := (plF_all _ _ hsum).1
      obtain ⟨N, HN⟩ : ∃ N, Hid (waysN (cntN 7 ns) = N) := ⟨_, rfl⟩
      rw [HN.out] at hN HRE
      have hw7 : fac (cntN 7 ns).sum ≤ fac 7 := fac_mono (by omega)
      have hw77 : fac 7 = 5040 := by decide
      have hwl := waysN_le (cntN 7 ns)
      rw [HN.out] at hwl
      have hNb : N ≤ 5040 := by omega
      have HNL := Lib.hid hN
      have HSU := Lib.hid hsum
      clear hw7 hw77 hwl hN hsum HO
      have hRN := HRE.1
      have HRE2 := Lib.hid HRE.2; clear HRE
      go_wp2_with fail
      refine HP.out.mono ?_
      rintro e w6 ⟨u, rfl, us, hus, hrs, x6⟩
      have hul : us.length = N := by
        have := hrs.len
        simp only [List.length_map, HNL.out] at this; exact this
      have hrow := own_row hus (by omega)
      have HUL := Lib.hid hul
      have b6 := x6.cell b5
      have X6 := X5.trans x6
      have E6 := HX.trans x6
      have hcn6 := hcn.ext x6
      clear b5 x6 X5 hul hus hcn
      have hps : ∀ (i : Nat) (u : Value) (ys : List Nat), us[i]? = some u → (plF ns.length (cntN 7 ns))[i]? = some ys → Ints w6 u (ofN ys) := by
        intro i u ys h1 h2
        have := (hrs.row i u (ys.map encN) h1 (by simp [h2])).1.1
        unfold Ints RowOf; rw [ofN_map]; exact this
      have HPS := Lib.hid hps; clear hps hrs
      have HIF := Lib.hid (indexFunc_rows u us ((plF ns.length (cntN 7 ns)).map fun ys => decide (ofN ys = ofN ns)) 21 #[.pointer (some ⟨w.heap.size, 0, none⟩)] w6 hrow (by rw [List.length_map, HNL.out, HUL.out]) (fun _ _ => by kernel_rfl)
        (fun i u q W h1 h2 hx => by
          simp only [List.getElem?_map, Option.map_eq_some_iff] at h2
          obtain ⟨ys, h3, h4⟩ := h2
          exact same_any w.heap.size u _ (ofN ys) (ofN ns) W ((HPS.out i u ys h1 h3).ext hx) (hx.cell b6) (ints_ofN (H1.out.ext (X6.trans hx))) q h4))
      have hat : idxF id ((plF ns.length (cntN 7 ns)).map fun ys => decide (ofN ys = ofN ns)) 0 = (R : Int) := by
        have h0 := idxF_at ((plF ns.length (cntN 7 ns)).map fun ys => decide (ofN ys = ofN ns)) R (by simp [HRE2.out.1]) (fun j hj h => by
          simp only [List.getElem?_map, Option.map_eq_some_iff] at h
          obtain ⟨ys, h3, h4⟩ := h
          have h5 := ofN_inj (of_decide_eq_true h4)
          subst h5
          exact HRE2.out.2 j hj h3) 0
        rw [h0]; omega
      have HIF2 := HIF.out
      rw [hat] at HIF2
      have HIF3 := Lib.hid HIF2
      clear HIF HIF2 hat
      obtain ⟨ao3, c3, rfl, _, _, _, hcr⟩ := id hrow
      go_wp2_with fail
      refine HIF3.out.mono ?_
      rintro e w7 ⟨rfl, x7⟩
      have X7 := X6.trans x7
      have hcn7 := hcn6.ext x7
      have hrow7 := hrow.ext x7
      clear HIF3 hcn6 b6
      have hR1 : R + 1 = N := by rw [← HN.out]; exact HLA.out
      have hR2 : us.length ≤ R + 1 := by rw [HUL.out]; omega
      have w7e : Ext w7 w7 := Ext.refl _
      obtain ⟨w8, e8⟩ : ∃ w8, w8 = w7 := ⟨_, rfl⟩
      subst e8
      have X8 := X7; have hcn8 := hcn7; have hrow8 := hrow7
      clear hR1 hcn7 hrow7 X7
      have HUr := Lib.hid (fun W h => Unrank_ok (.slice (some ⟨w4.heap.size, 0, none⟩) 7 7) (cntN 7 ns) m W h ⟨cntN_len _ _, by rw [HSU.out]; exact hl16⟩ hn)
      have hmu : m < us.length := by rw [HUL.out, ← HN.out]; exact hn
      have hm0 : (0 : Int) ≤ (m : Int) := by omega
      have hmi : (m : Int) < ((us.length : Nat) : Int) := by omega
      have hget := unrF_get (cntN 7 ns) m hn
      rw [HSU.out] at hget
      have HGE := Lib.hid hget
      obtain ⟨um, hum, _, _⟩ := get_lt (xs := us) (k := m) hmu
      have hqm := (HPS.out m um _ hum.out HGE.out).ext (x7.trans (Ext.refl _))
      clear hn hget
      go_wp2_with fail
      refine (HUr.out _ hcn8).mono ?_
      rintro e w9 ⟨ur, rfl, hur, x9⟩
      have hrow9 := hrow8.ext x9
      obtain ⟨mb, mo, hmeq, hmc⟩ := hrow9.at hum
      cases hmeq
      go_wp2_with fail
      refine (equal_ints _ _ _ _ _ (by have := ints_ofN hur; rw [HSU.out] at this; exact this) (hqm.ext x9) true (by show _ = _; simp)).mono ?_
      rintro e w10 ⟨rfl, x10⟩
      go_wp2_with fail
      go_ret
      exact ⟨rfl, X8.trans (x9.trans x10)⟩

set_option maxHeartbeats 4000000 in
set_option maxRecDepth 100000 in
theorem law_ranks_ok_in_last (v : Value) (ns : List Nat) (n : Int) (w : World) (hv : Nats w v ns) (hf : Fit ns) (h6 : ns.length ≤ 6) (m : Nat) (hm : n = m) (hn : m < waysN (cntN 7 ns)) (hns : ns ≠ []) (hpw : (ofN ns).Pairwise (· ≥ ·)) :
    Calls Try.prog 4 #[v, .int .i64 n] w fun e w' => e = .returned (.bool true) ∧ Ext w w' := by
  subst hm
  have C1 := Lib.hid (fun W h => Rank_ok v ns W h hf)
  have K1 := fun W h => cellsError_any v (ofN ns) W h
  rw [fit_err hf] at K1
  have K1 := Lib.hid K1
  have N1 := Lib.hid (fun W h => Next_ok v (ofN ns) W h (fit_err hf) (by simpa [ofN] using hns))
  have H1 := Lib.hid hv
  have HF7 := Lib.hid hf
  have hR := rank_bd 7 ns hf.1 hf.2
  have hl16 := hf.2
  obtain ⟨R, HR⟩ : ∃ R, Hid (rankF (cntN 7 ns) ns = R) := ⟨_, rfl⟩
  rw [HR.out] at C1 hR
  have hla := rank_desc 7 ns hf.1 (by rw [ofN, List.pairwise_map] at hpw; exact hpw.imp (fun h => by omega))
  rw [HR.out] at hla
  have HLA := Lib.hid hla; clear hla hns
  obtain ⟨ao, c, rfl, hlen, hc⟩ := hv.open
  clear hv hf
  have hx0 := (Ext.refl w).alloc (.cells #[.slice ao ns.length c] 22)
  obtain ⟨w0, hw0⟩ : ∃ w0, Hid (w.alloc (.cells #[.slice ao ns.length c] 22) = w0) := ⟨_, rfl⟩
  have hbx : w0.cell? ⟨w.heap.size, 0, none⟩ = some (.slice ao ns.length c) := by rw [← hw0.out]; simp [World.cell?_alloc_new]
  rw [hw0.out] at hx0
  have HFa := Lib.hid (indexFact_any w0)
  go_enter Try.func4, Try.ntmps4
  go_wp2_with fail
  rw [hw0.out]
  refine HFa.out.mono ?_
  rintro e w1 ⟨rfl, x1⟩
  have b1 := x1.cell hbx
  have X1 := hx0.trans x1
  go_wp2_with fail
  refine (C1.out _ (H1.out.ext X1)).mono ?_
  rintro e w2 ⟨rfl, x2⟩
  have b2 := x2.cell b1
  have X2 := X1.trans x2
  clear b1 x1 x2 hbx
  go_wp2_with fail
  refine (N1.out _ (ints_ofN (H1.out.ext X2))).mono ?_
  rintro e w3 ⟨hN, x3⟩
  have hN2 : e = .returned (.tuple #[.slice none 0 0, .int .i64 8]) := by
    rcases hN with ⟨h, _⟩ | ⟨u, ys, _, _, hnp⟩
    · exact h
    · exfalso
      obtain ⟨ms, rfl, hms, hrk⟩ := nextP_rank ns HF7.out.1 ys hnp
      have h1 := ((plF_all _ _ rfl).2.1 ms hms).2
      have h2 := HLA.out
      have h3 := HR.out
      omega
  subst hN2
  clear hN
  have b3 := x3.cell b2
  have X3 := X2.trans x3
  clear b2 x3 hpw
  go_wp2_with fail
  refine (K1.out _ (ints_ofN (H1.out.ext X3))).mono ?_
  rintro e w4 ⟨rfl, x4⟩
  have b4 := x4.cell b3
  have X4 := X3.trans x4
  clear b3 x4
  obtain ⟨W0, HW0⟩ : ∃ W0, Hid (w4 = W0) := ⟨_, rfl⟩
  have hok : cellsOk (ofN ns) := (cellsErr_zero (fit_err HF7.out)).1
  have hcc := ((ints_ofN (H1.out.ext X4)).open)
  obtain ⟨ao', c', heq, _, hcc⟩ := hcc
  have hol : (ofN ns).length = ns.length := by simp [ofN]
  simp only [hol, Value.slice.injEq] at heq
  obtain ⟨rfl, _, rfl⟩ := heq
  have HOL := Lib.hid hol; clear hol
  have hmk : ∀ W, (Instr.makeSlice 22 (.int .i64 7) (.int .i64 7)).run Try.prog W = .ok (.slice (some ⟨W.heap.size, 0, none⟩) 7 7) (W.alloc (.cells #[.int .i64 0, .int .i64 0, .int .i64 0, .int .i64 0, .int .i64 0, .int .i64 0, .int .i64 0] 3)) := fun _ => by kernel_rfl
  have HRE := rankF_facts ns HF7.out R HR
  have hlt4 : w.heap.size < w4.heap.size := World.block_lt_of_cell? w4 _ b4
  go_wp2_with fail
  go_loopw [56] (fun i wr => ∃ k : Nat, k ≤ ns.length ∧ i = .int .i64 k ∧ Ext w4 wr ∧ wr.ownsRow w4.heap.size 3 1 (.slice (some ⟨w4.heap.size, 0, none⟩) 7 7) 7 ((cnts ((ofN ns).take k)).map (Value.int .i64))) (fun i _ => ns.length - (intOf i).toNat)
  case atStart => exact ⟨0, Nat.zero_le _, rfl, (Ext.refl _).alloc _, own_made w4 (.int .i64 0) 3 7 (by decide) _ rfl⟩
  case round =>
    obtain ⟨k, hk, rfl, HX, HO⟩ := hrel
    by_cases hlt : k < ns.length
    · obtain ⟨x, h1, h2, h3⟩ := get_lt (xs := ofN ns) (k := k) (by rw [HOL.out]; exact hlt)
      obtain ⟨b, off, rfl, _⟩ := hcc.at h1
      have hcell := (hcc.ext HX).at' h1
      obtain ⟨hx0, hx6⟩ := hok x (List.mem_of_getElem? h1.out)
      obtain ⟨q, hq, hq0, hq1, hq2⟩ := cnts_at ((ofN ns).take k) x ⟨hx0, hx6⟩
      have hql : q ≤ 17592186044416 := by have : ((ofN ns).take k).length ≤ k := List.length_take_le _ _; omega
      clear hq1
      have hcx := own_cell HO (j := x.toNat) (x := .int .i64 q) (by simp [Hid, hq.out])
      have hfx := HO.frozenAt x.toNat
      have hst := HO.stored x.toNat (.int .i64 (q + 1))
      go_wp2_with fail
      go_roundw
      case rel => exact ⟨k + 1, by omega, by go_num, HX.setCell (Nat.le_refl _) _, by
        rw [h3.out, cnts_snoc, hq2.out, List.map_set]; exact hst.1⟩
      case measure => simp [intOf]; omega
    · obtain rfl : k = ns.length := by omega
      rw [← HOL.out, List.take_length, cnts_ofN, ofN_map] at HO
      have X5 := X4.trans HX
      have b5 := HX.cell b4
      have hcn := own_nats HO (by decide)
      have hsum := cntN_sum 7 ns HF7.out.1
      have HP := Lib.hid (placements_any ns.length _ (cntN 7 ns) _ hcn (by rw [cntN_len]; exact Nat.le_refl _) hsum (by omega))
      have hN := (plF_all _ _ hsum).1
      obtain ⟨N, HN⟩ : ∃ N, Hid (waysN (cntN 7 ns) = N) := ⟨_, rfl⟩
      rw [HN.out] at hN HRE
      have hw7 : fac (cntN 7 ns).sum ≤ fac 7 := fac_mono (by omega)
      have hw77 : fac 7 = 5040 := by decide
      have hwl := waysN_le (cntN 7 ns)
      rw [HN.out] at hwl
      have hNb : N ≤ 5040 := by omega
      have HNL := Lib.hid hN
      have HSU := Lib.hid hsum
      clear hw7 hw77 hwl hN hsum HO
      have hRN := HRE.1
      have HRE2 := Lib.hid HRE.2; clear HRE
      go_wp2_with fail
      refine HP.out.mono ?_
      rintro e w6 ⟨u, rfl, us, hus, hrs, x6⟩
      have hul : us.length = N := by
        have := hrs.len
        simp only [List.length_map, HNL.out] at this; exact this
      have hrow := own_row hus (by omega)
      have HUL := Lib.hid hul
      have b6 := x6.cell b5
      have X6 := X5.trans x6
      have E6 := HX.trans x6
      have hcn6 := hcn.ext x6
      clear b5 x6 X5 hul hus hcn
      have hps : ∀ (i : Nat) (u : Value) (ys : List Nat), us[i]? = some u → (plF ns.length (cntN 7 ns))[i]? = some ys → Ints w6 u (ofN ys) := by
        intro i u ys h1 h2
        have := (hrs.row i u (ys.map encN) h1 (by simp [h2])).1.1
        unfold Ints RowOf; rw [ofN_map]; exact this
      have HPS := Lib.hid hps; clear hps hrs
      have HIF := Lib.hid (indexFunc_rows u us ((plF ns.length (cntN 7 ns)).map fun ys => decide (ofN ys = ofN ns)) 21 #[.pointer (some ⟨w.heap.size, 0, none⟩)] w6 hrow (by rw [List.length_map, HNL.out, HUL.out]) (fun _ _ => by kernel_rfl)
        (fun i u q W h1 h2 hx => by
          simp only [List.getElem?_map, Option.map_eq_some_iff] at h2
          obtain ⟨ys, h3, h4⟩ := h2
          exact same_any w.heap.size u _ (ofN ys) (ofN ns) W ((HPS.out i u ys h1 h3).ext hx) (hx.cell b6) (ints_ofN (H1.out.ext (X6.trans hx))) q h4))
      have hat : idxF id ((plF ns.length (cntN 7 ns)).map fun ys => decide (ofN ys = ofN ns)) 0 = (R : Int) := by
        have h0 := idxF_at ((plF ns.length (cntN 7 ns)).map fun ys => decide (ofN ys = ofN ns)) R (by simp [HRE2.out.1]) (fun j hj h => by
          simp only [List.getElem?_map, Option.map_eq_some_iff] at h
          obtain ⟨ys, h3, h4⟩ := h
          have h5 := ofN_inj (of_decide_eq_true h4)
          subst h5
          exact HRE2.out.2 j hj h3) 0
        rw [h0]; omega
      have HIF2 := HIF.out
      rw [hat] at HIF2
      have HIF3 := Lib.hid HIF2
      clear HIF HIF2 hat
      obtain ⟨ao3, c3, rfl, _, _, _, hcr⟩ := id hrow
      go_wp2_with fail
      refine HIF3.out.mono ?_
      rintro e w7 ⟨rfl, x7⟩
      have X7 := X6.trans x7
      have hcn7 := hcn6.ext x7
      have hrow7 := hrow.ext x7
      clear HIF3 hcn6 b6
      have hR1 : R + 1 = N := by rw [← HN.out]; exact HLA.out
      have hR2 : us.length ≤ R + 1 := by rw [HUL.out]; omega
      have w7e : Ext w7 w7 := Ext.refl _
      obtain ⟨w8, e8⟩ : ∃ w8, w8 = w7 := ⟨_, rfl⟩
      subst e8
      have X8 := X7; have hcn8 := hcn7; have hrow8 := hrow7
      clear hR1 hcn7 hrow7 X7
      have HUr := Lib.hid (fun W h => Unrank_ok (.slice (some ⟨w4.heap.size, 0, none⟩) 7 7) (cntN 7 ns) m W h ⟨cntN_len _ _, by rw [HSU.out]; exact hl16⟩ hn)
      have hmu : m < us.length := by rw [HUL.out, ← HN.out]; exact hn
      have hm0 : (0 : Int) ≤ (m : Int) := by omega
      have hmi : (m : Int) < ((us.length : Nat) : Int) := by omega
      have hget := unrF_get (cntN 7 ns) m hn
      rw [HSU.out] at hget
      have HGE := Lib.hid hget
      obtain ⟨um, hum, _, _⟩ := get_lt (xs := us) (k := m) hmu
      have hqm := (HPS.out m um _ hum.out HGE.out).ext (x7.trans (Ext.refl _))
      clear hn hget
      go_wp2_with fail
      refine (HUr.out _ hcn8).mono ?_
      rintro e w9 ⟨ur, rfl, hur, x9⟩
      have hrow9 := hrow8.ext x9
      obtain ⟨mb, mo, hmeq, hmc⟩ := hrow9.at hum
      cases hmeq
      go_wp2_with fail
      refine (equal_ints _ _ _ _ _ (by have := ints_ofN hur; rw [HSU.out] at this; exact this) (hqm.ext x9) true (by show _ = _; simp)).mono ?_
      rintro e w10 ⟨rfl, x10⟩
      go_wp2_with fail
      go_ret
      exact ⟨rfl, X8.trans (x9.trans x10)⟩

set_option maxHeartbeats 4000000 in
set_option maxRecDepth 100000 in
theorem law_ranks_ok_in_more (v : Value) (ns : List Nat) (n : Int) (w : World) (hv : Nats w v ns) (hf : Fit ns) (h6 : ns.length ≤ 6) (m : Nat) (hm : n = m) (hn : m < waysN (cntN 7 ns)) (hns : ns ≠ []) (hpw : ¬ (ofN ns).Pairwise (· ≥ ·)) :
    Calls Try.prog 4 #[v, .int .i64 n] w fun e w' => e = .returned (.bool true) ∧ Ext w w' := by
  subst hm
  have C1 := Lib.hid (fun W h => Rank_ok v ns W h hf)
  have K1 := fun W h => cellsError_any v (ofN ns) W h
  rw [fit_err hf] at K1
  have K1 := Lib.hid K1
  have N1 := Lib.hid (fun W h => Next_ok v (ofN ns) W h (fit_err hf) (by simpa [ofN] using hns))
  have H1 := Lib.hid hv
  have HF7 := Lib.hid hf
  have hR := rank_bd 7 ns hf.1 hf.2
  have hl16 := hf.2
  obtain ⟨R, HR⟩ : ∃ R, Hid (rankF (cntN 7 ns) ns = R) := ⟨_, rfl⟩
  rw [HR.out] at C1 hR
  obtain ⟨ao, c, rfl, hlen, hc⟩ := hv.open
  clear hv hf
  have hx0 := (Ext.refl w).alloc (.cells #[.slice ao ns.length c] 22)
  obtain ⟨w0, hw0⟩ : ∃ w0, Hid (w.alloc (.cells #[.slice ao ns.length c] 22) = w0) := ⟨_, rfl⟩
  have hbx : w0.cell? ⟨w.heap.size, 0, none⟩ = some (.slice ao ns.length c) := by rw [← hw0.out]; simp [World.cell?_alloc_new]
  rw [hw0.out] at hx0
  have HFa := Lib.hid (indexFact_any w0)
  go_enter Try.func4, Try.ntmps4
  go_wp2_with fail
  rw [hw0.out]
  refine HFa.out.mono ?_
  rintro e w1 ⟨rfl, x1⟩
  have b1 := x1.cell hbx
  have X1 := hx0.trans x1
  go_wp2_with fail
  refine (C1.out _ (H1.out.ext X1)).mono ?_
  rintro e w2 ⟨rfl, x2⟩
  have b2 := x2.cell b1
  have X2 := X1.trans x2
  clear b1 x1 x2 hbx
  go_wp2_with fail
  refine (N1.out _ (ints_ofN (H1.out.ext X2))).mono ?_
  rintro e w3 ⟨hN, x3⟩
  obtain ⟨ux, ms, rfl, hux, hms, hmr⟩ : ∃ ux ms, e = .returned (.tuple #[ux, .int .i64 0]) ∧ Nats w3 ux ms ∧ Has (cntN 7 ns) ms ∧ rankF (cntN 7 ns) ms = R + 1 := by
    rcases hN with ⟨_, h⟩ | ⟨u, ys, h1, h2, hnp⟩
    · exact absurd h hpw
    · obtain ⟨ms, rfl, hms, hrk⟩ := nextP_rank ns HF7.out.1 ys hnp
      exact ⟨u, ms, h1, nats_of h2, hms, by rw [hrk, HR.out]⟩
  have HMR := Lib.hid hmr
  clear hN hmr
  have b3 := x3.cell b2
  have X3 := X2.trans x3
  clear b2 x3 hpw
  go_wp2_with fail
  refine (K1.out _ (ints_ofN (H1.out.ext X3))).mono ?_
  rintro e w4 ⟨rfl, x4⟩
  have b4 := x4.cell b3
  have X4 := X3.trans x4
  have hux4 := hux.ext x4
  clear hux
  clear b3 x4
  obtain ⟨W0, HW0⟩ : ∃ W0, Hid (w4 = W0) := ⟨_, rfl⟩
  have hok : cellsOk (ofN ns) := (cellsErr_zero (fit_err HF7.out)).1
  have hcc := ((ints_ofN (H1.out.ext X4)).open)
  obtain ⟨ao', c', heq, _, hcc⟩ := hcc
  have hol : (ofN ns).length = ns.length := by simp [ofN]
  simp only [hol, Value.slice.injEq] at heq
  obtain ⟨rfl, _, rfl⟩ := heq
  have HOL := Lib.hid hol; clear hol
  have hmk : ∀ W, (Instr.makeSlice 22 (.int .i64 7) (.int .i64 7)).run Try.prog W = .ok (.slice (some ⟨W.heap.size, 0, none⟩) 7 7) (W.alloc (.cells #[.int .i64 0, .int .i64 0, .int .i64 0, .int .i64 0, .int .i64 0, .int .i64 0, .int .i64 0] 3)) := fun _ => by kernel_rfl
  have HRE := rankF_facts ns HF7.out R HR
  have hlt4 : w.heap.size < w4.heap.size := World.block_lt_of_cell? w4 _ b4
  go_wp2_with fail
  go_loopw [56] (fun i wr => ∃ k : Nat, k ≤ ns.length ∧ i = .int .i64 k ∧ Ext w4 wr ∧ wr.ownsRow w4.heap.size 3 1 (.slice (some ⟨w4.heap.size, 0, none⟩) 7 7) 7 ((cnts ((ofN ns).take k)).map (Value.int .i64))) (fun i _ => ns.length - (intOf i).toNat)
  case atStart => exact ⟨0, Nat.zero_le _, rfl, (Ext.refl _).alloc _, own_made w4 (.int .i64 0) 3 7 (by decide) _ rfl⟩
  case round =>
    obtain ⟨k, hk, rfl, HX, HO⟩ := hrel
    by_cases hlt : k < ns.length
    · obtain ⟨x, h1, h2, h3⟩ := get_lt (xs := ofN ns) (k := k) (by rw [HOL.out]; exact hlt)
      obtain ⟨b, off, rfl, _⟩ := hcc.at h1
      have hcell := (hcc.ext HX).at' h1
      obtain ⟨hx0, hx6⟩ := hok x (List.mem_of_getElem? h1.out)
      obtain ⟨q, hq, hq0, hq1, hq2⟩ := cnts_at ((ofN ns).take k) x ⟨hx0, hx6⟩
      have hql : q ≤ 17592186044416 := by have : ((ofN ns).take k).length ≤ k := List.length_take_le _ _; omega
      clear hq1
      have hcx := own_cell HO (j := x.toNat) (x := .int .i64 q) (by simp [Hid, hq.out])
      have hfx := HO.frozenAt x.toNat
      have hst := HO.stored x.toNat (.int .i64 (q + 1))
      go_wp2_with fail
      go_roundw
      case rel => exact ⟨k + 1, by omega, by go_num, HX.setCell (Nat.le_refl _) _, by
        rw [h3.out, cnts_snoc, hq2.out, List.map_set]; exact hst.1⟩
      case measure => simp [intOf]; omega
    · obtain rfl : k = ns.length := by omega
      rw [← HOL.out, List.take_length, cnts_ofN, ofN_map] at HO
      have X5 := X4.trans HX
      have b5 := HX.cell b4
      have hcn := own_nats HO (by decide)
      have hsum := cntN_sum 7 ns HF7.out.1
      have HP := Lib.hid (placements_any ns.length _ (cntN 7 ns) _ hcn (by rw [cntN_len]; exact Nat.le_refl _) hsum (by omega))
      have hN := (plF_all _ _ hsum).1
      obtain ⟨N, HN⟩ : ∃ N, Hid (waysN (cntN 7 ns) = N) := ⟨_, rfl⟩
      rw [HN.out] at hN HRE
      have hw7 : fac (cntN 7 ns).sum ≤ fac 7 := fac_mono (by omega)
      have hw77 : fac 7 = 5040 := by decide
      have hwl := waysN_le (cntN 7 ns)
      rw [HN.out] at hwl
      have hNb : N ≤ 5040 := by omega
      have HNL := Lib.hid hN
      have HSU := Lib.hid hsum
      clear hw7 hw77 hwl hN hsum HO
      have hRN := HRE.1
      have HRE2 := Lib.hid HRE.2; clear HRE
      go_wp2_with fail
      refine HP.out.mono ?_
      rintro e w6 ⟨u, rfl, us, hus, hrs, x6⟩
      have hul : us.length = N := by
        have := hrs.len
        simp only [List.length_map, HNL.out] at this; exact this
      have hrow := own_row hus (by omega)
      have HUL := Lib.hid hul
      have b6 := x6.cell b5
      have X6 := X5.trans x6
      have E6 := HX.trans x6
      have hcn6 := hcn.ext x6
      clear b5 x6 X5 hul hus hcn
      have hps : ∀ (i : Nat) (u : Value) (ys : List Nat), us[i]? = some u → (plF ns.length (cntN 7 ns))[i]? = some ys → Ints w6 u (ofN ys) := by
        intro i u ys h1 h2
        have := (hrs.row i u (ys.map encN) h1 (by simp [h2])).1.1
        unfold Ints RowOf; rw [ofN_map]; exact this
      have HPS := Lib.hid hps; clear hps hrs
      have HIF := Lib.hid (indexFunc_rows u us ((plF ns.length (cntN 7 ns)).map fun ys => decide (ofN ys = ofN ns)) 21 #[.pointer (some ⟨w.heap.size, 0, none⟩)] w6 hrow (by rw [List.length_map, HNL.out, HUL.out]) (fun _ _ => by kernel_rfl)
        (fun i u q W h1 h2 hx => by
          simp only [List.getElem?_map, Option.map_eq_some_iff] at h2
          obtain ⟨ys, h3, h4⟩ := h2
          exact same_any w.heap.size u _ (ofN ys) (ofN ns) W ((HPS.out i u ys h1 h3).ext hx) (hx.cell b6) (ints_ofN (H1.out.ext (X6.trans hx))) q h4))
      have hat : idxF id ((plF ns.length (cntN 7 ns)).map fun ys => decide (ofN ys = ofN ns)) 0 = (R : Int) := by
        have h0 := idxF_at ((plF ns.length (cntN 7 ns)).map fun ys => decide (ofN ys = ofN ns)) R (by simp [HRE2.out.1]) (fun j hj h => by
          simp only [List.getElem?_map, Option.map_eq_some_iff] at h
          obtain ⟨ys, h3, h4⟩ := h
          have h5 := ofN_inj (of_decide_eq_true h4)
          subst h5
          exact HRE2.out.2 j hj h3) 0
        rw [h0]; omega
      have HIF2 := HIF.out
      rw [hat] at HIF2
      have HIF3 := Lib.hid HIF2
      clear HIF HIF2 hat
      obtain ⟨ao3, c3, rfl, _, _, _, hcr⟩ := id hrow
      go_wp2_with fail
      refine HIF3.out.mono ?_
      rintro e w7 ⟨rfl, x7⟩
      have X7 := X6.trans x7
      have hcn7 := hcn6.ext x7
      have hrow7 := hrow.ext x7
      clear HIF3 hcn6 b6
      have hR1 : R + 1 < us.length := by
        have h1 := ((plF_all _ _ rfl).2.1 _ hms).2
        rw [HMR.out, HN.out] at h1; rw [HUL.out]; exact h1
      have hms1 := ((plF_all _ _ rfl).2.1 _ hms).1
      rw [HMR.out, HSU.out] at hms1
      obtain ⟨u1, hu1, _, _⟩ := get_lt (xs := us) (k := R + 1) hR1
      have hq1 := (HPS.out (R + 1) u1 ms hu1.out hms1).ext x7
      obtain ⟨rb, ro, rfl, hrc⟩ := hrow7.at hu1
      have hux7 := ints_ofN (hux4.ext (E6.trans x7))
      clear hms1 hux4
      go_wp2_with fail
      refine (equal_ints _ _ _ _ _ hux7 hq1 true (by show _ = _; simp)).mono ?_
      rintro e w8 ⟨rfl, x8⟩
      have X8 := X7.trans x8
      have hcn8 := hcn7.ext x8
      have hrow8 := hrow7.ext x8
      clear hcn7 hrow7 X7 hrc
      have HUr := Lib.hid (fun W h => Unrank_ok (.slice (some ⟨w4.heap.size, 0, none⟩) 7 7) (cntN 7 ns) m W h ⟨cntN_len _ _, by rw [HSU.out]; exact hl16⟩ hn)
      have hmu : m < us.length := by rw [HUL.out, ← HN.out]; exact hn
      have hm0 : (0 : Int) ≤ (m : Int) := by omega
      have hmi : (m : Int) < ((us.length : Nat) : Int) := by omega
      have hget := unrF_get (cntN 7 ns) m hn
      rw [HSU.out] at hget
      have HGE := Lib.hid hget
      obtain ⟨um, hum, _, _⟩ := get_lt (xs := us) (k := m) hmu
      have hqm := (HPS.out m um _ hum.out HGE.out).ext (x7.trans x8)
      clear hn hget
      go_wp2_with fail
      refine (HUr.out _ hcn8).mono ?_
      rintro e w9 ⟨ur, rfl, hur, x9⟩
      have hrow9 := hrow8.ext x9
      obtain ⟨mb, mo, hmeq, hmc⟩ := hrow9.at hum
      cases hmeq
      go_wp2_with fail
      refine (equal_ints _ _ _ _ _ (by have := ints_ofN hur; rw [HSU.out] at this; exact this) (hqm.ext x9) true (by show _ = _; simp)).mono ?_
      rintro e w10 ⟨rfl, x10⟩
      go_wp2_with fail
      go_ret
      exact ⟨rfl, X8.trans (x9.trans x10)⟩
end Go.Proofs.Ytllhgkacbpgemaa
