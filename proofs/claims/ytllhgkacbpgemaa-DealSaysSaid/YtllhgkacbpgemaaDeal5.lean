/- walks of the package deal: check, Commit, Cheat, New -/
import Derived.Test.YtllhgkacbpgemaaDeal4
namespace Go.Proofs.Ytllhgkacbpgemaa
open Go.RowKit

/-- the error of a call on a player at a stage -/
def chkF (l : List PV) (cheat k stage : Int) : Int := if k < 0 ∨ (l.length : Int) ≤ k then 4 else if stageF l cheat = stage then 0 else 10

set_option maxHeartbeats 800000 in
set_option maxRecDepth 100000 in
theorem chk_any (B tb pb : Nat) (n : Int) (l : List PV) (cheat k stage : Int) (w : World) (hv : Tab w B tb pb n l cheat) :
    Calls Try.prog 63 #[.pointer (some ⟨tb, 0, none⟩), .int .i64 k, .int .i64 stage] w fun e w' => e = .returned (.int .i64 (chkF l cheat k stage)) ∧ Ext w w' := by
  have c1 := hv.c1
  have HS := Lib.hid (stage_any B tb pb n l cheat w hv)
  have hlen := hv.len
  clear hv
  by_cases h1 : k < 0
  · have hq : chkF l cheat k stage = 4 := by simp [chkF, h1]
    rw [hq]
    go_enter Try.func63, Try.ntmps63
    go_wp2_with fail
    go_ret
    exact ⟨rfl, Ext.refl _⟩
  · have h1' : 0 ≤ k := by omega
    by_cases h2 : (l.length : Int) ≤ k
    · have hq : chkF l cheat k stage = 4 := by simp [chkF, h2]
      rw [hq]
      clear h1 hq
      go_enter Try.func63, Try.ntmps63
      go_wp2_with fail
      go_ret
      exact ⟨rfl, Ext.refl _⟩
    · have h2' : k < (l.length : Int) := by omega
      obtain ⟨s, hs⟩ : ∃ s, Hid (stageF l cheat = s) := ⟨_, rfl⟩
      have hq : chkF l cheat k stage = if s = stage then 0 else 10 := by simp [chkF, h1, h2, hs.out]
      rw [hq]
      rw [hs.out] at HS
      by_cases h3 : s = stage
      · rw [if_pos h3]
        have hb : (s != stage) = false := by simp [h3]
        clear h1 h2 hq h3
        go_enter Try.func63, Try.ntmps63
        go_wp2_with fail
        refine HS.out.mono ?_
        rintro e w1 ⟨rfl, hx⟩
        go_wp2_with fail
        go_ret
        exact ⟨rfl, hx⟩
      · rw [if_neg h3]
        have hb : (s != stage) = true := by simp [h3]
        clear h1 h2 hq h3
        go_enter Try.func63, Try.ntmps63
        go_wp2_with fail
        refine HS.out.mono ?_
        rintro e w1 ⟨rfl, hx⟩
        go_wp2_with fail
        go_ret
        exact ⟨rfl, hx⟩

theorem chk_zero {l : List PV} {cheat k stage : Int} (h : chkF l cheat k stage = 0) : ∃ (K : Nat) (p : PV), k = K ∧ K < l.length ∧ Hid (l[K]? = some p) ∧ stageF l cheat = stage := by
  simp only [chkF] at h
  split at h
  · cases h
  · rename_i h1
    split at h
    · rename_i h2
      obtain ⟨K, rfl⟩ := Int.eq_ofNat_of_zero_le (show 0 ≤ k by omega)
      obtain ⟨p, hp, _⟩ := get_lt (xs := l) (k := K) (by omega)
      exact ⟨K, p, rfl, by omega, hp, h2⟩
    · cases h

set_option maxHeartbeats 800000 in
set_option maxRecDepth 100000 in
theorem commit_err (B tb pb : Nat) (n : Int) (l : List PV) (cheat k sl : Int) (w : World) (hv : Tab w B tb pb n l cheat) (h : chkF l cheat k 0 ≠ 0) :
    Calls Try.prog 31 #[.pointer (some ⟨tb, 0, none⟩), .int .i64 k, .int .u64 sl] w fun e w' => e = .returned (.int .i64 (chkF l cheat k 0)) ∧ Ext w w' := by
  have HS := Lib.hid (chk_any B tb pb n l cheat k 0 w hv)
  have hb : (chkF l cheat k 0 != 0) = true := by simp [h]
  clear hv h
  generalize chkF l cheat k 0 = q at *
  go_enter Try.func31, Try.ntmps31
  go_wp2_with fail
  refine HS.out.mono ?_
  rintro e w1 ⟨rfl, hx⟩
  go_wp2_with fail
  go_ret
  exact ⟨rfl, hx⟩

set_option maxHeartbeats 800000 in
set_option maxRecDepth 100000 in
theorem commit_twice (B tb pb : Nat) (n : Int) (l : List PV) (cheat sl : Int) (K : Nat) (p : PV) (w : World) (hv : Tab w B tb pb n l cheat) (h : chkF l cheat K 0 = 0) (hK : K < l.length) (hp : Hid (l[K]? = some p)) (hs : p.sealed = true) :
    Calls Try.prog 31 #[.pointer (some ⟨tb, 0, none⟩), .int .i64 K, .int .u64 sl] w fun e w' => e = .returned (.int .i64 7) ∧ Ext w w' := by
  have HS := chk_any B tb pb n l cheat K 0 w hv
  rw [h] at HS
  have HS := Lib.hid HS
  have c1 := hv.c1
  obtain ⟨d0, d1, d2, d3⟩ := hv.p hp
  rw [hs] at d0
  clear hv h hs
  go_enter Try.func31, Try.ntmps31
  go_wp2_with fail
  refine HS.out.mono ?_
  rintro e w1 ⟨rfl, hx⟩
  have e1 := hx.cell c1
  have e0 := hx.cell d0
  go_wp2_with fail
  go_ret
  exact ⟨rfl, hx⟩

set_option maxHeartbeats 800000 in
set_option maxRecDepth 100000 in
theorem commit_ok (B tb pb : Nat) (n : Int) (l : List PV) (cheat sl : Int) (K : Nat) (p : PV) (w : World) (hv : Tab w B tb pb n l cheat) (h : chkF l cheat K 0 = 0) (hK : K < l.length) (hp : Hid (l[K]? = some p)) (hs : p.sealed = false) :
    Calls Try.prog 31 #[.pointer (some ⟨tb, 0, none⟩), .int .i64 K, .int .u64 sl] w fun e w' => e = .returned (.int .i64 0) ∧ Tab w' B tb pb n (l.set K { p with sealed := true, mark := sl }) cheat ∧ Kp tb pb w w' := by
  have HS := chk_any B tb pb n l cheat K 0 w hv
  rw [h] at HS
  have HS := Lib.hid HS
  have HV := Lib.hid hv
  have hlen := hv.len
  clear hv h
  go_enter Try.func31, Try.ntmps31
  go_wp2_with fail
  refine HS.out.mono ?_
  rintro e w1 ⟨rfl, hx⟩
  have hv1 := HV.out.ext hx
  have c1 := hv1.c1
  obtain ⟨d0, d1, d2, d3⟩ := hv1.p hp
  rw [hs] at d0
  have f0 := hv1.row.frozenAt (K * 4 + 0)
  have s0 := hv1.row.stored (K * 4 + 0) (.bool true)
  rw [encP_set l K p { p with sealed := true } hp.out 0 _ (by omega) rfl] at s0
  have f2 := hv1.row.frozenAt (K * 4 + 2)
  have s2 := s0.1.stored (K * 4 + 2) (.int .u64 sl)
  have hp2 : (l.set K { p with sealed := true })[K]? = some { p with sealed := true } := by simp [hK]
  rw [encP_set _ K { p with sealed := true } { p with sealed := true, mark := sl } hp2 2 _ (by omega) rfl, List.set_set] at s2
  have h1 := own_kept (own_kept hv1.own s0.2 (.inl (by simp [Value.ownBlock]; exact hv1.ne))) s2.2 (.inl (by simp [Value.ownBlock]; exact hv1.ne))
  have H1 := Lib.hid h1
  have H2 := Lib.hid s2.1
  have HK : Kp tb pb w1 _ := (Kp.grown s0.2 (.inr rfl)).trans (Kp.grown s2.2 (.inr rfl))
  simp only [Nat.add_zero] at f0
  clear s0 s2 h1 hp2 hv1
  go_wp2_with fail
  go_ret
  exact ⟨rfl, ⟨by simpa using H1.out, by simpa using H2.out, HV.out.ne, by simpa using hlen⟩, (Kp.of hx).trans (by simpa using HK)⟩
end Go.Proofs.Ytllhgkacbpgemaa
