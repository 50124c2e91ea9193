/- walks of the package deal: Open that goes through -/
import Derived.Test.YtllhgkacbpgemaaDeal8
namespace Go.Proofs.Ytllhgkacbpgemaa
open Go.RowKit

theorem Tab.lt {w : World} {B tb pb : Nat} {n : Int} {l : List PV} {cheat : Int} (h : Tab w B tb pb n l cheat) : tb < w.heap.size ∧ pb < w.heap.size := ⟨(h.own.lt tb rfl).2, (h.row.lt pb rfl).2⟩

set_option maxHeartbeats 1600000 in
set_option maxRecDepth 100000 in
theorem open_ok (B tb pb : Nat) (n : Int) (hn : -9223372036854775808 ≤ n ∧ n ≤ 9223372036854775807) (l : List PV) (cheat s : Int) (v : Value) (ds : List Int) (K : Nat) (p : PV) (w : World) (hv : Tab w B tb pb n l cheat) (hd : Ints w v ds) (h : chkF l cheat K 1 = 0) (hK : K < l.length) (hp : Hid (l[K]? = some p)) (hs : p.opened = false) (hf : drawsErr n ds = 0) (hl2 : ds.length + 2 ≤ 17592186044416) (hz : (sealF ds s != p.mark) = false) :
    Calls Try.prog 32 #[.pointer (some ⟨tb, 0, none⟩), .int .i64 K, v, .int .i64 s] w fun e w' => e = .returned (.tuple #[.bool true, .int .i64 0]) ∧
      (∃ da dc, Tab w' B tb pb n (l.set K { p with opened := true, da := da, dl := ds.length, dc := dc }) cheat ∧ w'.ownsRow w.heap.size 3 1 (.slice da ds.length dc) ds.length (ds.map (Value.int .i64))) ∧ Kp tb pb w w' := by
  have HS := chk_any B tb pb n l cheat K 1 w hv
  rw [h] at HS
  have HS := Lib.hid HS
  have HV := Lib.hid hv
  have HF : ∀ W, Ext w W → Calls Try.prog 61 #[.int .i64 n, v] W fun e w' => e = .returned (.int .i64 0) ∧ w' = W := fun W hW => (fits_any n v ds W (hd.ext hW) hn).mono (fun _ _ h => ⟨by rw [h.1, hf], h.2.symm⟩)
  have HF := Lib.hid HF
  have HE := Lib.hid (fun (W : World) (hW : Ext w W) => seal_any v ds s W (hd.ext hW) hl2)
  have HC := Lib.hid (fun (W : World) (hW : Ext w W) => clone_ints v ds W (hd.ext hW))
  have hlen := hv.len
  clear hv h hd hf hn
  generalize sealF ds s = z at *
  go_enter Try.func32, Try.ntmps32
  go_wp2_with fail
  refine HS.out.mono ?_
  rintro e w1 ⟨rfl, hx⟩
  have hv1 := HV.out.ext hx
  have c0 := hv1.c0
  have c1 := hv1.c1
  have c2 := hv1.c2
  obtain ⟨d0, d1, d2, d3⟩ := hv1.p hp
  rw [hs] at d1
  clear hs hv1
  go_wp2_with fail
  go_region_with (first
    | (go_at_call 61; refine (HF.out _ (by exact hx.drew)).mono ?_; rintro e w2 ⟨rfl, rfl⟩)
    | (go_at_call 25; refine (HE.out _ (by exact hx.drew)).mono ?_; rintro e w2 ⟨rfl, hx2⟩; have d2 := hx2.cell d2))
  all_goals
    have hx12 := hx.drew.trans hx2
    clear c0 c1 c2 d0 d1 d2 d3
    go_wp2_with fail
    refine (HC.out _ (by exact hx12)).mono ?_
    rintro e w3 ⟨u, rfl, hO, hx3⟩
    obtain ⟨uo, uc, rfl, _, _⟩ := (own_rowOf (enc := Value.int .i64) (xs := ds) hO (by omega)).open
    have hv3 := HV.out.ext (hx12.trans hx3)
    have hlt := (HV.out.ext hx12).lt
    have f1 := hv3.row.frozenAt (K * 4 + 1)
    obtain ⟨e0, e1, e2, e3⟩ := hv3.p hp
    have s1 := hv3.row.stored (K * 4 + 1) (.bool true)
    rw [encP_set l K p { p with opened := true } hp.out 1 _ (by omega) rfl] at s1
    have f3 := s1.1.frozenAt (K * 4 + 3)
    have s3 := s1.1.stored (K * 4 + 3) (.slice uo ds.length uc)
    have hp2 : (l.set K { p with opened := true })[K]? = some { p with opened := true } := by simp [hK]
    rw [encP_set _ K { p with opened := true } { p with opened := true, da := uo, dl := ds.length, dc := uc } hp2 3 _ (by omega) rfl, List.set_set] at s3
    have h1 := own_kept (own_kept hv3.own s1.2 (.inl (by simp [Value.ownBlock]; exact hv3.ne))) s3.2 (.inl (by simp [Value.ownBlock]; exact hv3.ne))
    have hne : ∀ k, (Value.slice uo ds.length uc).ownBlock = some k → k ≠ pb := fun k hk => by have := (hO.lt k hk).1; omega
    have hne2 : (Value.slice uo ds.length uc).ownBlock ≠ some pb := fun e => hne pb e rfl
    have h2 := own_kept (own_kept (own_mono hO hx12.size) s1.2 (.inl hne2)) s3.2 (.inl hne2)
    have H1 := Lib.hid h1
    have H2 := Lib.hid s3.1
    have H4 := Lib.hid h2
    have HK : Kp tb pb w3 _ := (Kp.grown s1.2 (.inr rfl)).trans (Kp.grown s3.2 (.inr rfl))
    have HK := Lib.hid HK
    clear s1 s3 h1 h2 hp2 hv3 hne hne2
    go_wp2_with fail
    go_ret2
    exact ⟨rfl, ⟨uo, uc, ⟨by simpa using H1.out, by simpa using H2.out, HV.out.ne, by simpa using hlen⟩, by simpa using H4.out⟩, (Kp.of (hx12.trans hx3)).trans (by simpa using HK.out)⟩
end Go.Proofs.Ytllhgkacbpgemaa
