/- walks of the package deal: Open -/
import Derived.Test.YtllhgkacbpgemaaDeal7
import Derived.Deep.RegionWith
namespace Go.Proofs.Ytllhgkacbpgemaa
open Go.RowKit

set_option maxHeartbeats 800000 in
set_option maxRecDepth 100000 in
theorem open_err (B tb pb : Nat) (n : Int) (l : List PV) (cheat k s : Int) (v : Value) (w : World) (hv : Tab w B tb pb n l cheat) (h : chkF l cheat k 1 ≠ 0) :
    Calls Try.prog 32 #[.pointer (some ⟨tb, 0, none⟩), .int .i64 k, v, .int .i64 s] w fun e w' => e = .returned (.tuple #[.bool false, .int .i64 (chkF l cheat k 1)]) ∧ Ext w w' := by
  have HS := Lib.hid (chk_any B tb pb n l cheat k 1 w hv)
  have hb : (chkF l cheat k 1 != 0) = true := by simp [h]
  clear hv h
  generalize chkF l cheat k 1 = q at *
  go_enter Try.func32, Try.ntmps32
  go_wp2_with fail
  refine HS.out.mono ?_
  rintro e w1 ⟨rfl, hx⟩
  go_wp2_with fail
  go_ret2
  exact ⟨rfl, hx⟩

set_option maxHeartbeats 800000 in
set_option maxRecDepth 100000 in
theorem open_twice (B tb pb : Nat) (n : Int) (l : List PV) (cheat s : Int) (v : Value) (K : Nat) (p : PV) (w : World) (hv : Tab w B tb pb n l cheat) (h : chkF l cheat K 1 = 0) (hK : K < l.length) (hp : Hid (l[K]? = some p)) (hs : p.opened = true) :
    Calls Try.prog 32 #[.pointer (some ⟨tb, 0, none⟩), .int .i64 K, v, .int .i64 s] w fun e w' => e = .returned (.tuple #[.bool false, .int .i64 7]) ∧ Ext w w' := by
  have HS := chk_any B tb pb n l cheat K 1 w hv
  rw [h] at HS
  have HS := Lib.hid HS
  have c1 := hv.c1
  obtain ⟨d0, d1, d2, d3⟩ := hv.p hp
  rw [hs] at d1
  clear hv h hs
  go_enter Try.func32, Try.ntmps32
  go_wp2_with fail
  refine HS.out.mono ?_
  rintro e w1 ⟨rfl, hx⟩
  have e1 := hx.cell c1
  have e0 := hx.cell d1
  go_wp2_with fail
  go_ret2
  exact ⟨rfl, hx⟩

theorem fitsGo_vals (n : Int) : ∀ (xs : List Int) (j : Int), fitsGo n j xs = 0 ∨ fitsGo n j xs = 4 := by
  intro xs
  induction xs with
  | nil => intro j; exact .inl rfl
  | cons x xs ih =>
    intro j
    simp only [fitsGo]
    split
    · exact .inr rfl
    · exact ih _
theorem drawsErr_vals (n : Int) (xs : List Int) : drawsErr n xs = 0 ∨ drawsErr n xs = 3 ∨ drawsErr n xs = 4 := by
  simp only [drawsErr]
  split
  · rcases fitsGo_vals n xs 0 with h | h
    · exact .inl h
    · exact .inr (.inr h)
  · exact .inr (.inl rfl)

set_option maxHeartbeats 1600000 in
set_option maxRecDepth 100000 in
theorem open_bad1 (B tb pb : Nat) (n : Int) (hn : -9223372036854775808 ≤ n ∧ n ≤ 9223372036854775807) (l : List PV) (cheat s : Int) (v : Value) (ds : List Int) (K : Nat) (p : PV) (w : World) (hv : Tab w B tb pb n l cheat) (hd : Ints w v ds) (h : chkF l cheat K 1 = 0) (hK : K < l.length) (hp : Hid (l[K]? = some p)) (hs : p.opened = false) (hf : drawsErr n ds ≠ 0) :
    Calls Try.prog 32 #[.pointer (some ⟨tb, 0, none⟩), .int .i64 K, v, .int .i64 s] w fun e w' => e = .returned (.tuple #[.bool false, .int .i64 0]) ∧ Tab w' B tb pb n l K ∧ Kp tb pb w w' := by
  have HS := chk_any B tb pb n l cheat K 1 w hv
  rw [h] at HS
  have HS := Lib.hid HS
  have HV := Lib.hid hv
  have HF := Lib.hid (fun (W : World) (hW : Ext w W) => (fits_any n v ds W (hd.ext hW) hn).mono (fun _ _ h => (⟨h.1, h.2.symm⟩ : _ ∧ _ = W)))
  have hlen := hv.len
  have hvals : drawsErr n ds = 3 ∨ drawsErr n ds = 4 := (drawsErr_vals n ds).resolve_left hf
  clear hv h hd hf hn
  generalize drawsErr n ds = q at *
  rcases hvals with rfl | rfl
  all_goals
    go_enter Try.func32, Try.ntmps32
    go_wp2_with fail
    refine HS.out.mono ?_
    rintro e w1 ⟨rfl, hx⟩
    have hv1 := HV.out.ext hx
    have c0 := hv1.c0
    have c1 := hv1.c1
    have c2 := hv1.c2
    obtain ⟨d0, d1, d2, d3⟩ := hv1.p hp
    rw [hs] at d1
    clear hs hv1
    go_wp2_with fail
    go_quiet (first | (go_at_call 61; refine Calls.quiet_of_same (HF.out _ (by exact hx.drewN _))))
    have hv2 := HV.out.ext (hx.drewN nq)
    have f2 := hv2.own.frozenAt 2
    have s2 := hv2.own.stored 2 (.int .i64 K)
    have H1 := Lib.hid s2.1
    have H2 := Lib.hid (own_kept hv2.row s2.2 (.inl (by simp [Value.ownBlock]; exact fun e => HV.out.ne e.symm)))
    have H3 := Lib.hid ((Kp.of (hx.drewN nq)).trans (Kp.grown (tb := tb) (pb := pb) s2.2 (.inl rfl)))
    clear s2 hv2
    go_wp2_with fail
    go_ret2
    exact ⟨rfl, ⟨by simpa using H1.out, by simpa using H2.out, HV.out.ne, hlen⟩, by simpa using H3.out⟩

set_option maxHeartbeats 1600000 in
set_option maxRecDepth 100000 in
theorem open_bad2 (B tb pb : Nat) (n : Int) (hn : -9223372036854775808 ≤ n ∧ n ≤ 9223372036854775807) (l : List PV) (cheat s : Int) (v : Value) (ds : List Int) (K : Nat) (p : PV) (w : World) (hv : Tab w B tb pb n l cheat) (hd : Ints w v ds) (h : chkF l cheat K 1 = 0) (hK : K < l.length) (hp : Hid (l[K]? = some p)) (hs : p.opened = false) (hf : drawsErr n ds = 0) (hl2 : ds.length + 2 ≤ 17592186044416) (hz : (sealF ds s != p.mark) = true) :
    Calls Try.prog 32 #[.pointer (some ⟨tb, 0, none⟩), .int .i64 K, v, .int .i64 s] w fun e w' => e = .returned (.tuple #[.bool false, .int .i64 0]) ∧ Tab w' B tb pb n l K ∧ Kp tb pb w w' := by
  have HS := chk_any B tb pb n l cheat K 1 w hv
  rw [h] at HS
  have HS := Lib.hid HS
  have HV := Lib.hid hv
  have HF : ∀ W, Ext w W → Calls Try.prog 61 #[.int .i64 n, v] W fun e w' => e = .returned (.int .i64 0) ∧ w' = W := fun W hW => (fits_any n v ds W (hd.ext hW) hn).mono (fun _ _ h => ⟨by rw [h.1, hf], h.2.symm⟩)
  have HF := Lib.hid HF
  have HE := Lib.hid (fun (W : World) (hW : Ext w W) => seal_any v ds s W (hd.ext hW) hl2)
  have hlen := hv.len
  clear hv h hd hf hn
  generalize sealF ds s = z at *
  go_enter Try.func32, Try.ntmps32
  go_wp2_with fail
  refine HS.out.mono ?_
  rintro e w1 ⟨rfl, hx⟩
  have hv1 := HV.out.ext hx
  have c0 := hv1.c0
  have c1 := hv1.c1
  have c2 := hv1.c2
  obtain ⟨d0, d1, d2, d3⟩ := hv1.p hp
  rw [hs] at d1
  clear hs hv1
  go_wp2_with fail
  go_region_with (first
    | (go_at_call 61; refine (HF.out _ (by exact hx.drew)).mono ?_; rintro e w2 ⟨rfl, rfl⟩)
    | (go_at_call 25; refine (HE.out _ (by exact hx.drew)).mono ?_; rintro e w2 ⟨rfl, hx2⟩; have d2 := hx2.cell d2))
  all_goals
    have hv2 := HV.out.ext (hx.drew.trans hx2)
    have f2 := hv2.own.frozenAt 2
    have c2 := hv2.c2
    have s2 := hv2.own.stored 2 (.int .i64 K)
    have H1 := Lib.hid s2.1
    have H2 := Lib.hid (own_kept hv2.row s2.2 (.inl (by simp [Value.ownBlock]; exact fun e => HV.out.ne e.symm)))
    have H3 := Lib.hid ((Kp.of (hx.drew.trans hx2)).trans (Kp.grown (tb := tb) (pb := pb) s2.2 (.inl rfl)))
    clear s2 hv2
    go_wp2_with fail
    go_ret2
    exact ⟨rfl, ⟨by simpa using H1.out, by simpa using H2.out, HV.out.ne, hlen⟩, by simpa using H3.out⟩
end Go.Proofs.Ytllhgkacbpgemaa
