/- walks of package big: divSmall -/
import Derived.Test.YtecfphohmgbddaaGreatDoorBig4
import Derived.Deep.QuietTactic
import Derived.BigQuiet
import Derived.RegionTactic
import Derived.Laws.BitsLemmas
import Derived.Laws.BitsAllLaws
namespace Go.Proofs.YtecfphohmgbddaaGreatDoor
open Go.RowKit
set_option linter.unusedVariables false

theorem wraps64 : ∀ n : Int, 0 ≤ n → n < 2 ^ 64 → IntKind.u64.wrap n = n := by
  intro n h0 h1
  have h1 : n < 18446744073709551616 := h1
  simp [IntKind.wrap, IntKind.bits, IntKind.signed]
  omega
theorem wraps32 : ∀ n : Int, 0 ≤ n → n < 2 ^ 32 → IntKind.u32.wrap n = n := by
  intro n h0 h1
  have h1 : n < 4294967296 := h1
  simp [IntKind.wrap, IntKind.bits, IntKind.signed]
  omega
theorem or64_hi (a b : Nat) (ha : a < 4294967296) (hb : b < 4294967296) : bits .or .u64 ((a : Int) * 4294967296) (b : Int) = (a : Int) * 4294967296 + (b : Int) :=
  bits_join .u64 64 (by decide) wraps64 32 _ _ (by omega) (by omega) (by omega) (by omega) (by omega) (by omega)

set_option maxHeartbeats 1600000 in
set_option maxRecDepth 100000 in
theorem divSmall_any (v : Value) (ds : List Nat) (x : Nat) (w : World) (hv : Digs w v ds) (hd : Dg ds) (hx : x < 4294967296) (hx0 : 0 < x) (hl : ds.length ≤ 1073741824) :
    Calls Tryz.prog 115 #[v, .int .u32 x] w fun e w' => ∃ u, e = .returned (.tuple #[u, .int .u32 ((divL x ds).2 : Nat)]) ∧ NatV w' u (val (divL x ds).1) ∧ Fr w.heap.size u ((dig (val (divL x ds).1)).map encD) ∧ Ext w w' := by
  obtain ⟨wo, rfl⟩ : ∃ wo : World, wo = w := ⟨_, rfl⟩
  obtain ⟨ao, c, rfl, hlen, hc⟩ := hv.open
  have HC := Lib.hid hc
  have HD := Lib.hid hd
  have hxi : (x : Int) ≤ 4294967295 := by omega
  have hxn : ¬ (x : Int) = 0 := by omega
  clear hc hd hv
  go_enter Tryz.func115, Tryz.ntmps115
  go_wp2_with (first
    | (at_make; refine wp_make1 rfl rfl ei_nat rfl rfl rfl ds.length rfl rfl (by omega) (by omega) ?_; intro w2 hO2 hX2))
  go_loopw [7, 8] (fun rv iv wr => ∃ (k r : Nat) (qs : List Nat), k ≤ ds.length ∧ iv = .int .i64 ((k : Int) - 1) ∧ rv = .int .u64 r ∧ r < x ∧ Hid (divL x (ds.drop k) = (qs, r)) ∧ wr.ownsRow wo.heap.size 121 1 (.slice (some ⟨wo.heap.size, 0, none⟩) ds.length ds.length) ds.length ((List.replicate k 0 ++ qs).map encD) ∧ Ext wo wr) (fun _ iv _ => ((intOf iv) + 1).toNat)
  case atStart => exact ⟨ds.length, 0, [], Nat.le_refl _, rfl, rfl, hx0, by show _ = _; rw [List.drop_length]; rfl, own_cast hO2 (by simp [encD]) rfl, hX2⟩
  case round =>
    obtain ⟨k, r, qs, hk, rfl, rfl, hr, HI, HO, X⟩ := hrel
    have hri : (r : Int) ≤ 4294967295 := by omega
    by_cases h0 : k = 0
    · subst h0
      have hi2 := HI.out
      rw [List.drop_zero] at hi2
      have hq : Hid (NatV wr (.slice (some ⟨wo.heap.size, 0, none⟩) ds.length ds.length) (val qs) → True) := fun _ => trivial
      have hdg : Hid (Dg qs) := by
        show Dg _
        have := divL_dg hx0 ds HD.out
        rw [hi2] at this; exact this
      have HOq : wr.ownsRow wo.heap.size 121 1 (.slice (some ⟨wo.heap.size, 0, none⟩) ds.length ds.length) ds.length (qs.map encD) := own_cast HO (by simp) rfl
      have hr32 : (r : Int) % 4294967296 = (r : Int) := by omega
      have HI3 := Lib.hid hi2
      clear hi2 hq
      go_wp2_with fail
      refine (norm_own _ _ qs _ HOq (by omega) hdg.out).mono ?_
      rintro e w3 ⟨u, rfl, hn, hfr, rfl⟩
      go_wp2_with fail
      go_ret2
      exact ⟨u, by rw [HI3.out]; rfl, by rw [HI3.out]; exact hn, by rw [HI3.out]; exact hfr, X⟩
    · obtain ⟨j, rfl⟩ : ∃ j, k = j + 1 := ⟨k - 1, by omega⟩
      obtain ⟨d, d1, d2, d3⟩ := get_lt (show j < ds.length by omega)
      obtain ⟨b, off, rfl, hc0⟩ := (HC.out.ext X).at d1
      have hcell : wr.cell? ⟨b, off + j, none⟩ = some (.int .u32 d) := hc0
      have hdl := HD.out.at d1.out
      have hdi : (d : Int) ≤ 4294967295 := by omega
      have hki : (j : Int) < (ds.length : Int) := by omega
      have eor := or64_hi r d (by omega) hdl
      obtain ⟨s, hs⟩ : ∃ s, r * 4294967296 + d = s := ⟨_, rfl⟩
      rw [show (r : Int) * 4294967296 + (d : Int) = (s : Int) by omega] at eor
      obtain ⟨q, hq⟩ : ∃ q, s / x = q := ⟨_, rfl⟩
      obtain ⟨r2, hr2⟩ : ∃ r2, s % x = r2 := ⟨_, rfl⟩
      have edv : (s : Int).tdiv (x : Int) = (q : Int) := by rw [← hq]; exact (Int.ofNat_tdiv s x).symm
      have emd : (s : Int).tmod (x : Int) = (r2 : Int) := by rw [← hr2]; exact (Int.ofNat_tmod s x).symm
      have hq9 : q < 4294967296 := by
        rw [← hq]
        apply Nat.div_lt_of_lt_mul
        have := Nat.mul_le_mul_right 4294967296 (show r + 1 ≤ x from hr)
        rw [Nat.add_mul] at this; omega
      have hqi : (q : Int) ≤ 4294967295 := by omega
      have hqm : (q : Int) % 4294967296 = (q : Int) := by omega
      have hr9 : r2 < x := by rw [← hr2]; exact Nat.mod_lt _ hx0
      have HI2 : Hid (divL x (ds.drop j) = (q :: qs, r2)) := by
        show _ = _
        rw [d2.out, divL, HI.out]
        simp only
        rw [hs, hq, hr2]
      have c1 := own_cell HO (j := j) (x := .int .u32 0) (by show _ = _; rw [List.map_append, List.map_replicate, List.getElem?_append_left (by simp), List.getElem?_replicate, if_pos (by omega)]; rfl)
      have f1 := HO.frozenAt j
      have s1 := HO.stored j (.int .u32 q)
      have hset : ((List.replicate (j + 1) 0 ++ qs).map encD).set j (.int .u32 q) = (List.replicate j 0 ++ (q :: qs)).map encD := by
        rw [List.replicate_succ', List.append_assoc, List.map_append, List.set_append_right _ _ (by simp)]
        simp [encD]
      rw [hset] at s1
      have H1 := Lib.hid s1.1
      clear hc0 h0 hs hq hr2 s1 hset
      go_wp2_with fail
      go_roundw
      case rel => exact ⟨j, r2, q :: qs, by omega, rfl, rfl, hr9, HI2, H1.out, X.setCell (Nat.le_refl _) _⟩
      case measure => simp [intOf]
end Go.Proofs.YtecfphohmgbddaaGreatDoor
