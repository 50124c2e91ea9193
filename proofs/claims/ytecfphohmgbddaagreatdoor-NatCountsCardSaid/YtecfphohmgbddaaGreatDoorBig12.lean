/- walks of package big: shift -/
import Derived.Test.YtecfphohmgbddaaGreatDoorBig11
namespace Go.Proofs.YtecfphohmgbddaaGreatDoor
open Go.RowKit
set_option linter.unusedVariables false

/-- low | (d << k) at u64, where low < 2^k -/
theorem or64_lo (c s k : Nat) (hk : k ≤ 63) (hc : c < 2 ^ k) (hs : s < 18446744073709551616) (hm : s % 2 ^ k = 0) : bits .or .u64 (c : Int) (s : Int) = (c : Int) + (s : Int) := by
  have hp : (2 : Nat) ^ k ≤ 2 ^ 63 := Nat.pow_le_pow_right (by omega) hk
  have hc64 : c < 2 ^ 64 := by omega
  have h1 := (bits_nat .u64 64 (by decide) wraps64 c s hc64 (by omega)).2
  have h2 := (bits_nat .u64 64 (by decide) wraps64 s c (by omega) hc64).2
  rw [h1, Nat.or_comm, ← h2]
  rw [bits_join .u64 64 (by decide) wraps64 k _ _ (by omega) (by exact_mod_cast hm) (by omega) (by omega) (by exact_mod_cast hc) (by omega)]
  omega

theorem shift_carry {c d p : Nat} (hp : p ≤ 2147483648) (hp0 : 0 < p) (hc : c < p) (hd : d < 4294967296) : c + d * p ≤ 9223372036854775807 ∧ (c + d * p) / 4294967296 < p := by
  have h1 : d * p ≤ 4294967295 * p := Nat.mul_le_mul_right p (by omega)
  refine ⟨by omega, ?_⟩
  apply Nat.div_lt_of_lt_mul
  omega

set_option maxHeartbeats 1600000 in
set_option maxRecDepth 100000 in
theorem shift_any (v : Value) (ds : List Nat) (k : Nat) (w : World) (hv : Digs w v ds) (hd : Dg ds) (hk : k ≤ 31) (hl : ds.length ≤ 1073741824) :
    Calls Tryz.prog 117 #[v, .int .i64 k] w fun e w' => ∃ u, e = .returned u ∧ w'.ownsRow w.heap.size 121 1 u (ds.length + 1) ((mulAddL (2 ^ k) ds 0).map encD) ∧ Ext w w' := by
  obtain ⟨wo, rfl⟩ : ∃ wo : World, wo = w := ⟨_, rfl⟩
  obtain ⟨p, hp⟩ : ∃ p : Nat, 2 ^ k = p := ⟨_, rfl⟩
  rw [hp]
  have hp31 : p ≤ 2147483648 := by rw [← hp]; exact Nat.pow_le_pow_right (show 0 < 2 by omega) hk
  have hp0 : 0 < p := by rw [← hp]; exact Nat.pow_pos (by omega)
  obtain ⟨F, hF⟩ : ∃ F, mulAddL p ds 0 = F := ⟨_, rfl⟩
  rw [hF]
  obtain ⟨ao, c, rfl, hlen, hc⟩ := hv.open
  have HF := Lib.hid hF
  have HC := Lib.hid hc
  have HD := Lib.hid hd
  have HP := Lib.hid hp
  have hki : (k : Int) ≤ 31 := by omega
  have hmin : min k 64 = k := by omega
  have hpi : (2 : Int) ^ k = (p : Int) := by rw [← hp]; simp
  clear hF hc hd hv hp
  go_enter Tryz.func117, Tryz.ntmps117
  go_wp2_with (first
    | (at_make; refine wp_make0 rfl rfl ei_nat rfl rfl (ds.length + 1) (by omega) (by omega) (by omega) ?_; intro w2 hO2 hX2))
  go_loopw [5, 6, 15] (fun o cv iv wr => ∃ (i cr : Nat) (os : List Nat), i ≤ ds.length ∧ iv = .int .i64 i ∧ cv = .int .u64 cr ∧ cr < p ∧ os.length = i ∧ wr.ownsRow wo.heap.size 121 1 o i (os.map encD) ∧ Ext wo wr ∧ Hid (os ++ mulAddL p (ds.drop i) cr = F)) (fun _ _ iv _ => ds.length - (intOf iv).toNat)
  case atStart => exact ⟨0, 0, [], Nat.zero_le _, rfl, rfl, hp0, rfl, hO2, hX2, HF.out⟩
  case round =>
    obtain ⟨i, cr, os, hi, rfl, rfl, hcr, hol, HO, X, HI⟩ := hrel
    have hci : (cr : Int) ≤ 2147483648 := by omega
    have HOL := Lib.hid hol
    clear hol
    by_cases hlt : i < ds.length
    · obtain ⟨d, d1, d2, d3⟩ := get_lt hlt
      obtain ⟨b, off, rfl, hc0⟩ := (HC.out.ext X).at d1
      have hcell : wr.cell? ⟨b, off + i, none⟩ = some (.int .u32 d) := hc0
      have hdl := HD.out.at d1.out
      obtain ⟨s, hs⟩ : ∃ s, d * p = s := ⟨_, rfl⟩
      have hcar := shift_carry hp31 hp0 hcr hdl
      have hi2 := HI.out
      rw [d2.out, mulAddL] at hi2
      have eor := or64_lo cr s k (by omega) (by rw [HP.out]; exact hcr) (by omega) (by rw [HP.out, ← hs]; exact Nat.mul_mod_left _ _)
      rw [hs] at hcar hi2
      obtain ⟨t, ht⟩ : ∃ t, cr + s = t := ⟨_, rfl⟩
      rw [ht] at hcar hi2
      rw [show (cr : Int) + (s : Int) = (t : Int) by omega] at eor
      obtain ⟨lo, hlo⟩ : ∃ lo, t % 4294967296 = lo := ⟨_, rfl⟩
      obtain ⟨hh, hhi⟩ : ∃ hh, t / 4294967296 = hh := ⟨_, rfl⟩
      rw [hlo, hhi] at hi2
      rw [hhi] at hcar
      have HI2 : Hid ((os ++ [lo]) ++ mulAddL p (ds.drop (i + 1)) hh = F) := by show _ = _; rw [List.append_assoc]; exact hi2
      have e1 : (d : Int) * (p : Int) = (s : Int) := by rw [← hs, Int.natCast_mul]
      have b1 : (s : Int) ≤ 9223372036854775807 := by omega
      have e2 : (t : Int) % 4294967296 = (lo : Int) := by omega
      have e3 : (t : Int) / 4294967296 = (hh : Int) := by omega
      have b2 : (t : Int) ≤ 9223372036854775807 := by omega
      have hdi : (d : Int) ≤ 4294967295 := by omega
      have hki : (i : Int) < (ds.length : Int) := by omega
      have HCAR := Lib.hid hcar.2
      clear hi2 hlo hhi hs hc0 ht hcar
      have hsz := X.size
      go_wp2_with (at_builtin; refine wp_app1 (s := .tmp 25) (x := .tmp 28) (y := .int .u32 lo) rfl rfl ei_nat HO rfl rfl rfl rfl (by omega) (by omega) (by omega) ?_; intro v' w' hown hgrew)
      go_roundw
      case rel => exact ⟨i + 1, hh, os ++ [lo], by omega, by go_num, rfl, HCAR.out, by rw [List.length_append, HOL.out]; rfl, own_cast hown (by simp [encD]) rfl, hgrew.extNew X HO (Nat.le_refl _), HI2⟩
      case measure => simp [intOf]; omega
    · have hil : i = ds.length := by omega
      subst hil
      have hi2 := HI.out
      rw [List.drop_length, mulAddL] at hi2
      have HI2 := Lib.hid hi2
      have hcm : (cr : Int) % 4294967296 = (cr : Int) := by omega
      have hsz := X.size
      clear hi2
      go_wp2_with (at_builtin; refine wp_app1 (s := .tmp 33) (x := .tmp 36) (y := .int .u32 cr) rfl rfl ei_nat HO rfl rfl rfl rfl (by omega) (by omega) (by omega) ?_; intro v' w' hown hgrew)
      go_ret
      exact ⟨v', rfl, own_cast hown (by rw [← HI2.out]; simp [encD]) rfl, hgrew.extNew X HO (Nat.le_refl _)⟩
end Go.Proofs.YtecfphohmgbddaaGreatDoor
