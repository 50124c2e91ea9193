/- walks of the reference for hands: HandValue, HandError; of the package: Check -/
import Derived.Test.YtllhgkacbpgemaaRanks2
import Derived.Deep.DeepCutAuto
namespace Go.Proofs.Ytllhgkacbpgemaa
open Go.RowKit
set_option linter.unusedVariables false

def handErr (xs : List Int) : Int := if deckErr xs = 0 then (if xs.length = 5 then 0 else 3) else deckErr xs

set_option maxHeartbeats 800000 in
set_option maxRecDepth 100000 in
theorem handError_any (v : Value) (xs : List Int) (w : World) (hv : Ints w v xs) (q : Int) (hq : Hid (handErr xs = q)) :
    Calls Try.prog 37 #[v] w fun e w' => e = .returned (.int .i64 q) ∧ w = w' := by
  have HD := deckError_any v xs w hv
  have hq2 := hq.out
  obtain ⟨d, hd⟩ : ∃ d, deckErr xs = d := ⟨_, rfl⟩
  rw [handErr, hd] at hq2
  rw [hd] at HD
  have HD := Lib.hid HD
  obtain ⟨ao, c, rfl, hlen, hc⟩ := hv.open
  clear hv hd hq hc
  by_cases h0 : d = 0
  · subst h0
    rw [if_pos rfl] at hq2
    by_cases h5 : xs.length = 5
    · rw [if_pos h5] at hq2
      subst hq2
      have hb : (((xs.length : Nat) : Int) != 5) = false := by simp; omega
      clear h5
      go_enter Try.func37, Try.ntmps37
      go_wp2_with fail
      refine HD.out.mono ?_
      rintro e w' ⟨rfl, rfl⟩
      go_wp2_with fail
      go_ret
      exact ⟨rfl, rfl⟩
    · rw [if_neg h5] at hq2
      subst hq2
      have hb : (((xs.length : Nat) : Int) != 5) = true := by simp; omega
      clear h5
      go_enter Try.func37, Try.ntmps37
      go_wp2_with fail
      refine HD.out.mono ?_
      rintro e w' ⟨rfl, rfl⟩
      go_wp2_with fail
      go_ret
      exact ⟨rfl, rfl⟩
  · rw [if_neg h0] at hq2
    subst hq2
    have hb : (d != 0) = true := by simp [h0]
    clear h0
    go_enter Try.func37, Try.ntmps37
    go_wp2_with fail
    refine HD.out.mono ?_
    rintro e w' ⟨rfl, rfl⟩
    go_wp2_with fail
    go_ret
    exact ⟨rfl, rfl⟩

set_option maxHeartbeats 800000 in
set_option maxRecDepth 100000 in
theorem ranksCheck_any (v : Value) (xs : List Int) (w : World) (hv : Ints w v xs) (q : Int) (hq : Hid (handErr xs = q)) :
    Calls Try.prog 38 #[v] w fun e w' => e = .returned (.int .i64 q) ∧ w = w' := by
  have HD := check_any v xs w hv
  have hq2 := hq.out
  obtain ⟨d, hd⟩ : ∃ d, deckErr xs = d := ⟨_, rfl⟩
  rw [handErr, hd] at hq2
  rw [hd] at HD
  have HD := Lib.hid HD
  obtain ⟨ao, c, rfl, hlen, hc⟩ := hv.open
  clear hv hd hq hc
  by_cases h0 : d = 0
  · subst h0
    rw [if_pos rfl] at hq2
    by_cases h5 : xs.length = 5
    · rw [if_pos h5] at hq2
      subst hq2
      have hb : (((xs.length : Nat) : Int) != 5) = false := by simp; omega
      clear h5
      go_enter Try.func38, Try.ntmps38
      go_wp2_with fail
      refine HD.out.mono ?_
      rintro e w' ⟨rfl, rfl⟩
      go_wp2_with fail
      go_ret
      exact ⟨rfl, rfl⟩
    · rw [if_neg h5] at hq2
      subst hq2
      have hb : (((xs.length : Nat) : Int) != 5) = true := by simp; omega
      clear h5
      go_enter Try.func38, Try.ntmps38
      go_wp2_with fail
      refine HD.out.mono ?_
      rintro e w' ⟨rfl, rfl⟩
      go_wp2_with fail
      go_ret
      exact ⟨rfl, rfl⟩
  · rw [if_neg h0] at hq2
    subst hq2
    have hb : (d != 0) = true := by simp [h0]
    clear h0
    go_enter Try.func38, Try.ntmps38
    go_wp2_with fail
    refine HD.out.mono ?_
    rintro e w' ⟨rfl, rfl⟩
    go_wp2_with fail
    go_ret
    exact ⟨rfl, rfl⟩

def digsR (xs : List Int) : List Int := digs (cntR xs) (strD (cntR xs) 10)
def valueR (xs : List Int) : Int := valF (classR xs) (padF (digsR xs))
/-- what holds of a hand's digits -/
structure GoodH (xs : List Int) : Prop where
  len : (padF (digsR xs)).length = 5
  rng : ∀ d ∈ padF (digsR xs), 0 ≤ d ∧ d ≤ 12
  lo : 0 ≤ classR xs
  hi : classR xs ≤ 10

def pow13 : Nat → Int
  | 0 => 13
  | n + 1 => 13 * pow13 n
theorem pow13_le : ∀ k, k < 5 → pow13 k ≤ 371293 := by decide

theorem valF_snoc (n : Int) (l : List Int) (d : Int) : valF n (l ++ [d]) = 13 * valF n l + d := by simp [valF]

def sliceLen (v : Value) : Nat := match v with
  | .slice _ n _ => n
  | _ => 0
theorem own_sliceLen {w : World} {B : Nat} {e : TypeId} {sz : Nat} {v : Value} {n : Nat} {vs : List Value} (h : w.ownsRow B e sz v n vs) : sliceLen v = n := by
  rcases h.2 with ⟨rfl, h0⟩ | ⟨g, cap, cur, rfl, _⟩
  · exact h0.symm
  · rfl

set_option maxHeartbeats 1600000 in
set_option maxRecDepth 100000 in
theorem handValue_any (v : Value) (xs : List Int) (w : World) (hv : Ints w v xs) (hx : ∀ x ∈ xs, 0 ≤ x ∧ x ≤ 51) (h52 : xs.length ≤ 52) (hg : GoodH xs) (q : Int) (hq : Hid (valueR xs = q)) :
    Calls Try.prog 40 #[v] w fun e w' => e = .returned (.int .i64 q) ∧ Ext w w' := by
  obtain ⟨s, hs⟩ : ∃ s, Hid (strD (cntR xs) 10 = s) := ⟨_, rfl⟩
  obtain ⟨z, hz⟩ : ∃ z, Hid (classR xs = z) := ⟨_, rfl⟩
  have HS := Lib.hid (straightR_any v xs w hv hx s hs)
  have HC := Lib.hid (handClass_any v xs w hv hx h52 z hz)
  have HT := Lib.hid (fun (W : World) (hW : Ext w W) (r : Int) => times_any v xs r W (hv.ext hW) hx (cntR xs r) rfl)
  obtain ⟨g1, g2, g3, g4⟩ := hg
  obtain ⟨D, hD⟩ : ∃ D, Hid (digs (cntR xs) s = D) := ⟨_, rfl⟩
  rw [hz.out] at g3 g4
  rw [digsR, hs.out, hD.out] at g1 g2
  have hq2 := hq.out
  rw [valueR, digsR, hs.out, hz.out, hD.out] at hq2
  have HQ := Lib.hid hq2
  have hD2 := hD.out
  rw [digs] at hD2
  obtain ⟨c, hc⟩ : ∃ c, cntR xs = c := ⟨_, rfl⟩
  rw [hc] at HT hD2
  have HG1 := Lib.hid g1
  have HG2 := Lib.hid g2
  have hDl : D.length ≤ 5 := by rw [padF, List.length_append, List.length_replicate] at g1; omega
  obtain ⟨ao, c2, rfl, hlen, hcc⟩ := hv.open
  clear hv hx hs hz g1 g2 hq hq2 hc hD hcc
  go_enter Try.func40, Try.ntmps40
  go_wp2_with fail
  refine HC.out.mono ?_
  rintro e w' ⟨rfl, rfl⟩
  go_wp2_with fail
  refine HS.out.mono ?_
  rintro e w' ⟨rfl, rfl⟩
  have HD2 := Lib.hid hD2
  clear hD2
  go_upto_region 4 with fail
  go_cut [15] from 14 to 15 (fun s15 wx => ∃ b, s15 = .bool b ∧ Hid (b = decide (0 ≤ s)) ∧ w = wx)
  case first =>
    go_wp2_with fail
    go_meet
    exact ⟨_, rfl, rfl, rfl⟩
  case rest =>
  obtain ⟨b, rfl, hb, rfl⟩ := hcut
  go_upto_if 15 with fail
  go_cut [4] from 16 to 34 (fun s4 wx => wx.ownsRow w.heap.size 3 1 s4 D.length (D.map (Value.int .i64)) ∧ Ext w wx)
  case first =>
    by_cases hs0 : 0 ≤ s
    · have hD3 : [s] = D := by rw [← HD2.out, if_pos hs0]
      subst hD3
      have hbt : b = true := by rw [hb.out]; simp [hs0]
      subst hbt
      clear HD2
      go_wp2_with fail
      go_meet
      exact ⟨own_lit1 _ _ _, (Ext.refl w).alloc _⟩
    · have HD3 : Hid (digAll c 4 = D) := by rw [← HD2.out, if_neg hs0]; rfl
      have hbf : b = false := by rw [hb.out]; simp; omega
      subst hbf
      clear HD2 hs0 hb
      go_wp2_with fail
      go_loopw [4, 6] (fun v m wr => ∃ (n : Nat) (acc : List Int), n ≤ 4 ∧ m = .int .i64 n ∧ Ext w wr ∧ wr.ownsRow w.heap.size 3 1 v acc.length (acc.map (Value.int .i64)) ∧ Hid (acc ++ digAll c n = D)) (fun _ m _ => (intOf m).toNat)
      case atStart => exact ⟨4, [], Nat.le_refl _, by go_num, Ext.refl _, World.ownsRow_nil _ _ _ _, HD3.out⟩
      case round =>
        obtain ⟨n, acc, hn, rfl, HX, HO, HI⟩ := hrel
        cases n with
        | zero =>
          have hacc : acc = D := by have := HI.out; simpa [digAll] using this
          subst hacc
          go_wp2_with fail
          go_meet
          exact ⟨HO, HX⟩
        | succ n =>
          have hI2 := HI.out
          rw [digAll, ← List.append_assoc] at hI2
          have HI2 := Lib.hid hI2
          have HOU := Lib.hid HO
          have h0 : (0 : Int) < ((n + 1 : Nat) : Int) := by omega
          obtain ⟨mm, hmm⟩ : ∃ mm, n + 1 = mm := ⟨_, rfl⟩
          rw [hmm] at HI2 h0 ⊢
          have hm4 : mm ≤ 4 := by omega
          have h0n : 0 < mm := by omega
          have HMM := Lib.hid hmm
          have hmi : (mm : Int) - 1 = (n : Int) := by omega
          clear hI2 HO HI hmm
          obtain ⟨wo, rfl⟩ : ∃ wo : World, wo = wr := ⟨_, rfl⟩
          go_wp2_with fail
          go_loopw [4, 7] (fun v h wr => ∃ (r : Nat) (h' : Int) (acc : List Int), r ≤ 13 ∧ h = .int .i64 h' ∧ Hid (h' = (r : Int) - 1) ∧ Ext w wr ∧ wr.ownsRow w.heap.size 3 1 v acc.length (acc.map (Value.int .i64)) ∧ Hid ((acc ++ digRow c mm r) ++ digAll c n = D)) (fun _ h _ => (intOf h + 1).toNat)
          case atStart => exact ⟨13, 12, acc, Nat.le_refl _, rfl, rfl, HX, HOU.out, HI2.out⟩
          case round =>
            obtain ⟨r, h', acc2, hr, rfl, HH, HX2, HO2, HI3⟩ := hrel
            have HOU2 := Lib.hid HO2
            have hsz := HX2.size
            clear HO2
            cases r with
            | zero =>
              have hh : h' = -1 := by have := HH.out; omega
              subst hh
              have HI4 : Hid (acc2 ++ digAll c n = D) := by have := HI3.out; simpa [digRow, Hid] using this
              go_wp2_with fail
              go_roundw
              case rel => exact ⟨n, acc2, by omega, rfl, HX2, HOU2.out, HI4.out⟩
              case measure => simp [intOf]; omega
            | succ r =>
              have hh : h' = (r : Int) := by have := HH.out; omega
              subst hh
              have HTr := Lib.hid (HT.out _ HX2 (r : Int))
              have hI5 := HI3.out
              rw [digRow] at hI5
              have hl5 : acc2.length ≤ D.length := by rw [← hI5]; simp
              have h0r : (0 : Int) ≤ (r : Int) := by omega
              by_cases hcm : c r = mm
              · rw [if_pos hcm] at hI5
                have HI6 : Hid ((acc2 ++ [(r : Int)] ++ digRow c mm r) ++ digAll c n = D) := by rw [← hI5]; simp [Hid]
                rw [hcm] at HTr
                clear hcm hI5
                have hb : (((mm : Nat) : Int) == (mm : Int)) = true := by simp
                go_wp2_with fail
                refine HTr.out.mono ?_
                rintro e w' ⟨rfl, rfl⟩
                go_wp2_with (at_builtin; refine wp_app1 rfl rfl ei_ints HOU2.out rfl rfl rfl rfl (by omega) (by omega) (by omega) ?_; intro v' w' hown hgrew)
                go_roundw
                case rel => exact ⟨r, (r : Int) - 1, acc2 ++ [(r : Int)], by omega, rfl, rfl, hgrew.extNew HX2 HOU2.out (Nat.le_refl _), by simpa using hown, HI6.out⟩
                case measure => simp [intOf]
              · rw [if_neg hcm, List.nil_append] at hI5
                have HI6 := Lib.hid hI5
                have hb : (((c r : Nat) : Int) == (mm : Int)) = false := by rw [beq_eq_false_iff_ne]; omega
                clear hcm hI5
                go_wp2_with fail
                refine HTr.out.mono ?_
                rintro e w' ⟨rfl, rfl⟩
                go_wp2_with fail
                go_roundw
                case rel => exact ⟨r, (r : Int) - 1, acc2, by omega, rfl, rfl, HX2, HOU2.out, HI6.out⟩
                case measure => simp [intOf]
  case rest =>
    obtain ⟨HO, HX⟩ := hcut
    go_wp2_with fail
    go_loopw [4] (fun v wr => ∃ (j : Nat), D.length + j ≤ 5 ∧ Ext w wr ∧ wr.ownsRow w.heap.size 3 1 v (D.length + j) ((D ++ List.replicate j 0).map (Value.int .i64))) (fun v _ => 5 - sliceLen v)
    case atStart => exact ⟨0, by omega, HX, by simpa using HO⟩
    case round =>
      obtain ⟨j, hj, HX2, HO2⟩ := hrel
      obtain ⟨vo, vc, hve, _⟩ := (own_rowOf (enc := Value.int .i64) (xs := D ++ List.replicate j 0) HO2 (by omega)).open
      have hve2 : u4 = .slice vo (D.length + j) vc := by rw [hve]; simp
      subst hve2
      clear hve
      have hsz := HX2.size
      by_cases hlt : D.length + j < 5
      · have HOU := Lib.hid HO2
        obtain ⟨t, ht⟩ : ∃ t, D.length + j = t := ⟨_, rfl⟩
        rw [ht] at HOU hlt ⊢
        have HT2 := Lib.hid ht
        clear HO2 ht
        go_wp2_with (at_builtin; refine wp_app1 rfl rfl ei_ints HOU.out rfl rfl rfl rfl (by omega) (by omega) (by omega) ?_; intro v' w' hown hgrew)
        go_roundw
        case rel => exact ⟨j + 1, by have := HT2.out; omega, hgrew.extNew HX2 HOU.out (Nat.le_refl _), by rw [← Nat.add_assoc, HT2.out, List.replicate_succ']; simpa using hown⟩
        case measure =>
          have := own_sliceLen hown
          rw [this]; simp [sliceLen]; omega
      · have h5 : D.length + j = 5 := by omega
        have hp : D ++ List.replicate j 0 = padF D := by
          rw [padF]; congr 2; omega
        rw [h5] at HO2 ⊢
        rw [hp] at HO2
        have HP := Lib.hid (own_rowOf (enc := Value.int .i64) (xs := padF D) HO2 (by omega))
        obtain ⟨po, pc, hpe, _, hpc⟩ := HP.out.open
        rw [HG1.out] at hpe
        simp only [Value.slice.injEq, true_and] at hpe
        obtain ⟨rfl, rfl⟩ := hpe
        have HPC := Lib.hid hpc
        generalize padF D = P at *
        clear hpc HO2 h5 hp hlt hj
        go_wp2_with fail
        go_loop [3, 43] (fun a i => ∃ (k : Nat) (z2 : Int), k ≤ 5 ∧ i = .int .i64 k ∧ a = .int .i64 z2 ∧ 0 ≤ z2 ∧ z2 < pow13 k ∧ Hid (valF z (P.take k) = z2)) (fun _ i => 5 - (intOf i).toNat)
        case atStart => exact ⟨0, z, by omega, rfl, rfl, g3, by simp [pow13]; omega, rfl⟩
        case round =>
          obtain ⟨k, z2, hk, rfl, rfl, hz0, hz1, HZ⟩ := hrel
          by_cases hlt : k < 5
          · obtain ⟨d, x1, _, x3⟩ := get_lt (xs := P) (k := k) (by rw [HG1.out]; exact hlt)
            obtain ⟨b, off, rfl, hcell⟩ := HPC.out.at x1
            obtain ⟨hd0, hd12⟩ := HG2.out d (List.mem_of_getElem? x1.out)
            have hpk := pow13_le k hlt
            have hz2 : z2 ≤ 371293 := by omega
            have hpk1 : pow13 (k + 1) = 13 * pow13 k := rfl
            have HZ2 : Hid (valF z (P.take (k + 1)) = 13 * z2 + d) := by show _ = _; rw [x3.out, valF_snoc, HZ.out]
            have HB : Hid (13 * z2 + d < pow13 (k + 1)) := by show _ < _; rw [hpk1]; omega
            clear hpk1 hpk hz1
            go_wp2_with fail
            go_round
            case rel => exact ⟨k + 1, 13 * z2 + d, by omega, by go_num, rfl, by omega, HB.out, HZ2.out⟩
            case measure => simp [intOf]; omega
          · have hk5 : k = 5 := by omega
            subst hk5
            have hq3 : z2 = q := by
              have h1 := HZ.out
              rw [List.take_of_length_le (by rw [HG1.out]; omega)] at h1
              rw [← h1]; exact HQ.out
            subst hq3
            clear hz1
            go_wp2_with fail
            go_ret
            exact ⟨rfl, HX2⟩
end Go.Proofs.Ytllhgkacbpgemaa
