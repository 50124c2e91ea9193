/- walks of package big: Add, Sub -/
import Derived.Test.YtecfphohmgbddaaGreatDoorBig2
namespace Go.Proofs.YtecfphohmgbddaaGreatDoor
open Go.RowKit
set_option linter.unusedVariables false

theorem Digs.len {w : World} {v : Value} {ds : List Nat} (h : Digs w v ds) : ds.length ≤ 17592186044416 := by
  obtain ⟨_, _, _, h2, _⟩ := h.open
  exact h2

set_option maxHeartbeats 3200000 in
set_option maxRecDepth 100000 in
theorem add_le (v u : Value) (ds ms : List Nat) (w : World) (hv : Digs w v ds) (hu : Digs w u ms) (hd : Dg ds) (hm : Dg ms) (hml : ms.length ≤ ds.length) (hl : ds.length ≤ 1073741824) (sw : Bool) (hsw : sw = true → ms.length < ds.length) :
    Calls Tryz.prog 66 (if sw then #[u, v] else #[v, u]) w fun e w' => ∃ r, e = .returned r ∧ NatV w' r (val ds + val ms) ∧ Ext w w' := by
  obtain ⟨wo, rfl⟩ : ∃ wo : World, wo = w := ⟨_, rfl⟩
  obtain ⟨F, hF⟩ : ∃ F, addL ds ms 0 = F := ⟨_, rfl⟩
  obtain ⟨ao, c, rfl, hlen, hc⟩ := hv.open
  obtain ⟨ao2, c2, rfl, hlen2, hc2⟩ := hu.open
  have HF := Lib.hid hF
  have HC := Lib.hid hc
  have HC2 := Lib.hid hc2
  have HD := Lib.hid hd
  have HM := Lib.hid hm
  have hmi : (ms.length : Int) ≤ (ds.length : Int) := by omega
  clear hF hc hd hv hc2 hm hu
  cases sw
  all_goals
    first
      | (have hsi : (ms.length : Int) < (ds.length : Int) := by have := hsw rfl; omega)
      | skip
    clear hsw
    simp only [Bool.false_eq_true, ↓reduceIte]
    go_enter Tryz.func66, Tryz.ntmps66
    go_wp2_with (first
      | (at_make; refine wp_make0 rfl rfl ei_nat rfl rfl (ds.length + 1) (by omega) (by omega) (by omega) ?_; intro w2 hO2 hX2))
    go_loopw [5, 6, 22] (fun o cv iv wr => ∃ (i cr : Nat) (os : List Nat), i ≤ ds.length ∧ iv = .int .i64 i ∧ cv = .int .u64 cr ∧ cr ≤ 1 ∧ os.length = i ∧ wr.ownsRow wo.heap.size 121 1 o i (os.map encD) ∧ Ext wo wr ∧ Hid (os ++ addL (ds.drop i) (ms.drop i) cr = F)) (fun _ _ iv _ => ds.length - (intOf iv).toNat)
    case atStart => exact ⟨0, 0, [], Nat.zero_le _, rfl, rfl, by omega, rfl, hO2, hX2, HF.out⟩
    case round =>
      obtain ⟨i, cr, os, hi, rfl, rfl, hcr, hol, HO, X, HI⟩ := hrel
      have hci : (cr : Int) ≤ 1 := by omega
      have HOL := Lib.hid hol
      clear hol
      have hsz := X.size
      by_cases hlt : i < ds.length
      · obtain ⟨d, d1, d2, d3⟩ := get_lt hlt
        obtain ⟨b, off, rfl, hc0⟩ := (HC.out.ext X).at d1
        have hcell : wr.cell? ⟨b, off + i, none⟩ = some (.int .u32 d) := hc0
        have hdl := HD.out.at d1.out
        have hdi : (d : Int) ≤ 4294967295 := by omega
        have hki : (i : Int) < (ds.length : Int) := by omega
        by_cases hlm : i < ms.length
        · obtain ⟨m, m1, m2, m3⟩ := get_lt hlm
          obtain ⟨b2, off2, rfl, hc02⟩ := (HC2.out.ext X).at m1
          have hcell2 : wr.cell? ⟨b2, off2 + i, none⟩ = some (.int .u32 m) := hc02
          have hmm := HM.out.at m1.out
          have hmmi : (m : Int) ≤ 4294967295 := by omega
          have hmk : (i : Int) < (ms.length : Int) := by omega
          have hi2 := HI.out
          rw [d2.out, m2.out, addL] at hi2
          simp only [List.headD_cons, List.tail_cons] at hi2
          obtain ⟨lo, hlo⟩ : ∃ lo, (cr + d + m) % 4294967296 = lo := ⟨_, rfl⟩
          obtain ⟨hh, hhi⟩ : ∃ hh, (cr + d + m) / 4294967296 = hh := ⟨_, rfl⟩
          rw [hlo, hhi] at hi2
          have HI2 : Hid ((os ++ [lo]) ++ addL (ds.drop (i + 1)) (ms.drop (i + 1)) hh = F) := by show _ = _; rw [List.append_assoc]; exact hi2
          have e2 : ((cr : Int) + (d : Int) + (m : Int)) % 4294967296 = (lo : Int) := by omega
          have e3 : ((cr : Int) + (d : Int) + (m : Int)) / 4294967296 = (hh : Int) := by omega
          have hh1 : hh ≤ 1 := by omega
          clear hi2 hlo hhi hc0 hc02
          go_wp2_with (at_builtin; refine wp_app1 (s := .tmp 42) (x := .tmp 45) (y := .int .u32 lo) rfl rfl ei_nat HO rfl rfl rfl rfl (by omega) (by omega) (by omega) ?_; intro v' w' hown hgrew)
          go_roundw
          case rel => exact ⟨i + 1, hh, os ++ [lo], by omega, by go_num, rfl, hh1, by rw [List.length_append, HOL.out]; rfl, own_cast hown (by simp [encD]) rfl, hgrew.extNew X HO (Nat.le_refl _), HI2⟩
          case measure => simp [intOf]; omega
        · have hmk : (ms.length : Int) ≤ (i : Int) := by omega
          have hi2 := HI.out
          rw [d2.out, List.drop_eq_nil_of_le (by omega : ms.length ≤ i), addL] at hi2
          simp only [List.headD_nil, List.tail_nil, Nat.add_zero] at hi2
          obtain ⟨lo, hlo⟩ : ∃ lo, (cr + d) % 4294967296 = lo := ⟨_, rfl⟩
          obtain ⟨hh, hhi⟩ : ∃ hh, (cr + d) / 4294967296 = hh := ⟨_, rfl⟩
          rw [hlo, hhi] at hi2
          have HI2 : Hid ((os ++ [lo]) ++ addL (ds.drop (i + 1)) (ms.drop (i + 1)) hh = F) := by
            show _ = _
            rw [List.append_assoc, List.drop_eq_nil_of_le (by omega : ms.length ≤ i + 1)]; exact hi2
          have e2 : ((cr : Int) + (d : Int)) % 4294967296 = (lo : Int) := by omega
          have e3 : ((cr : Int) + (d : Int)) / 4294967296 = (hh : Int) := by omega
          have hh1 : hh ≤ 1 := by omega
          clear hi2 hlo hhi hc0
          go_wp2_with (at_builtin; refine wp_app1 (s := .tmp 42) (x := .tmp 45) (y := .int .u32 lo) rfl rfl ei_nat HO rfl rfl rfl rfl (by omega) (by omega) (by omega) ?_; intro v' w' hown hgrew)
          go_roundw
          case rel => exact ⟨i + 1, hh, os ++ [lo], by omega, by go_num, rfl, hh1, by rw [List.length_append, HOL.out]; rfl, own_cast hown (by simp [encD]) rfl, hgrew.extNew X HO (Nat.le_refl _), HI2⟩
          case measure => simp [intOf]; omega
      · have hil : i = ds.length := by omega
        subst hil
        have hi2 := HI.out
        rw [List.drop_length, addL] at hi2
        have hval : Hid (val (os ++ [cr]) = val ds + val ms) := by show _ = _; rw [hi2, ← HF.out, val_addL ds ms 0 hml]; rfl
        have hdg : Hid (Dg (os ++ [cr])) := by show Dg _; rw [hi2, ← HF.out]; exact dg_addL ds ms 0 HD.out HM.out (by omega)
        have hcm : (cr : Int) % 4294967296 = (cr : Int) := by omega
        clear hi2
        go_wp2_with (at_builtin; refine wp_app1 (s := .tmp 50) (x := .tmp 53) (y := .int .u32 cr) rfl rfl ei_nat HO rfl rfl rfl rfl (by omega) (by omega) (by omega) ?_; intro v' w' hown hgrew)
        have hown2 : w'.ownsRow wo.heap.size 121 1 v' (ds.length + 1) ((os ++ [cr]).map encD) := own_cast hown (by simp [encD]) rfl
        refine (norm_own v' _ (os ++ [cr]) w' hown2 (by omega) hdg.out).mono ?_
        rintro e w3 ⟨u, rfl, hn, _, rfl⟩
        go_wp2_with fail
        go_ret
        exact ⟨u, rfl, by rw [← hval.out]; exact hn, hgrew.extNew X HO (Nat.le_refl _)⟩

theorem add_any (v u : Value) (n m : Nat) (w : World) (hv : NatV w v n) (hu : NatV w u m) (hl : (dig n).length ≤ 1073741824) (hl2 : (dig m).length ≤ 1073741824) :
    Calls Tryz.prog 66 #[v, u] w fun e w' => ∃ r, e = .returned r ∧ NatV w' r (n + m) ∧ Ext w w' := by
  by_cases h : (dig m).length ≤ (dig n).length
  · have := add_le v u (dig n) (dig m) w hv hu (dig_dg n) (dig_dg m) h hl false (fun e => by cases e)
    rw [val_dig, val_dig] at this
    exact this
  · have := add_le u v (dig m) (dig n) w hu hv (dig_dg m) (dig_dg n) (by omega) hl2 true (fun _ => by omega)
    rw [val_dig, val_dig, Nat.add_comm] at this
    exact this
end Go.Proofs.YtecfphohmgbddaaGreatDoor
